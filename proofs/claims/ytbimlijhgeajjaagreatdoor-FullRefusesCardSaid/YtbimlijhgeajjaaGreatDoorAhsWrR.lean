/- Additional headers as bytes, by the document. -/
import Derived.Test.YtbimlijhgeajjaaGreatDoorCrc
import Derived.Test.YtbimlijhgeajjaaGreatDoorPairKey
import Derived.Test.YtbimlijhgeajjaaGreatDoorSplitPure
set_option linter.unusedSectionVars false
set_option linter.unusedSimpArgs false
set_option linter.unusedVariables false
namespace Go.Proofs.YtbimlijhgeajjaaGreatDoor
open Go.RowKit
set_option linter.unusedVariables false
set_option maxRecDepth 100000
def RAhsWrR (I : Nat → Int × List UInt8) (n : Nat) (w : World) (out i : Value) (wr : World) : Prop :=
  ∃ (k : Nat) (o : List UInt8), k ≤ n ∧ o.length ≤ 1020 ∧ i = .int .i64 (k : Nat) ∧ out = .string (bs o) ∧ ahsW I n 0 0 = ahsW I (n - k) k o.length ∧ ahsB I n 0 [] = ahsB I (n - k) k o ∧ Below w.heap.size w wr ∧ w.heap.size < wr.heap.size ∧
    wr.heap[w.heap.size]? = some (.cells #[.int .i64 0, .int .i64 0] 34 (0, 0))
def AhsWrRPost (I : Nat → Int × List UInt8) (n : Nat) (w : World) (e : Ending) (w' : World) : Prop :=
  e = .returned (.tuple #[.string (bs (if (ahsW I n 0 0).1 = 0 then ahsB I n 0 [] else [])), faultV (ahsW I n 0 0).1 (ahsW I n 0 0).2]) ∧ Below w.heap.size w w'
set_option maxHeartbeats 4000000 in
theorem rahsWrite_any (v : Value) (n : Nat) (I : Nat → Int × List UInt8) (w : World) (h : AhsIn w v n I) :
    Calls Tryz.prog 94 #[v] w fun e w' => AhsWrRPost I n w e w' := by
  obtain ⟨hn, hv, hcell⟩ := h
  unfold maxLen at hn
  rcases hv with ⟨rfl, rfl⟩ | ⟨a, cap, rfl⟩
  · have hbk := heap_alloc_new w (.cells #[.int .i64 0, .int .i64 0] 34 (0, 0))
    have q0 : (w.alloc (.cells #[.int .i64 0, .int .i64 0] 34 (0, 0))).cell? ⟨w.heap.size, 0, none⟩ = some (.int .i64 0) := by rw [cell_of_row _ _ _ _ _ _ hbk]; rfl
    have q1 : (w.alloc (.cells #[.int .i64 0, .int .i64 0] 34 (0, 0))).cell? ⟨w.heap.size, 1, none⟩ = some (.int .i64 0) := by rw [cell_of_row _ _ _ _ _ _ hbk]; rfl
    have f0 : (w.alloc (.cells #[.int .i64 0, .int .i64 0] 34 (0, 0))).frozen? ⟨w.heap.size, 0, none⟩ = false := frozen_of_row _ _ _ _ _ hbk
    have f1 : (w.alloc (.cells #[.int .i64 0, .int .i64 0] 34 (0, 0))).frozen? ⟨w.heap.size, 1, none⟩ = false := frozen_of_row _ _ _ _ _ hbk
    have hsz : w.heap.size < (w.alloc (.cells #[.int .i64 0, .int .i64 0] 34 (0, 0))).heap.size := by simp
    have hb0 : Below w.heap.size w (w.alloc (.cells #[.int .i64 0, .int .i64 0] 34 (0, 0))) := (Below.refl _ _).alloc (Nat.le_refl _) _
    clear hbk
    have c1 := fun w => hid (good_any w)
    go_enter Tryz.func94, Tryz.ntmps94
    go_wp2
    refine wp_loop_rounds 1 ?_
    rw [rounds_succ]
    go_wp2_with (go_at_call 29; refine (c1 _).out.mono ?_; rintro e w1 ⟨rfl, hb1⟩; have q0 := (hb1.cell (p := ⟨w.heap.size, 0, none⟩) hsz).trans q0; have q1 := (hb1.cell (p := ⟨w.heap.size, 1, none⟩) hsz).trans q1; have f0 := (hb1.frozen (p := ⟨w.heap.size, 0, none⟩) hsz).trans f0; have f1 := (hb1.frozen (p := ⟨w.heap.size, 1, none⟩) hsz).trans f1)
    refine bodyPost_ret (v := .tuple #[.string (bs []), .agg #[.int .i64 0, .int .i64 (-1)]]) (by simp [results, Tryz.results94, go_sem, q0, q1]; rfl) rfl ?_
    exact ⟨rfl, ((hb0.trans (hb1.mono (Nat.le_of_lt hsz))).setCell (Nat.le_refl _) _).setCell (Nat.le_refl _) _⟩
  have Hcell := hid (hcell a n cap rfl); clear hcell
  go_enter Tryz.func94, Tryz.ntmps94
  go_wp2
  go_loopw [4, 11] (fun out i wr => RAhsWrR I n w out i wr) (fun _ i _ => n - (intOf i).toNat)
  case atStart => exact ⟨0, [], by omega, by simp, rfl, rfl, rfl, rfl, (Below.refl _ _).alloc (Nat.le_refl _) _, by simp, heap_alloc_new _ _⟩
  case round =>
    obtain ⟨k, o, hk, ho, rfl, rfl, heq, heq2, hb, hsz, hblk⟩ := hrel
    have hB := hb.size
    have q0 : wr.cell? ⟨w.heap.size, 0, none⟩ = some (.int .i64 0) := by rw [cell_of_row _ _ _ _ _ _ hblk]; rfl
    have q1 : wr.cell? ⟨w.heap.size, 1, none⟩ = some (.int .i64 0) := by rw [cell_of_row _ _ _ _ _ _ hblk]; rfl
    have f0 : wr.frozen? ⟨w.heap.size, 0, none⟩ = false := frozen_of_row _ _ _ _ _ hblk
    have f1 : wr.frozen? ⟨w.heap.size, 1, none⟩ = false := frozen_of_row _ _ _ _ _ hblk
    by_cases hlt : k < n
    · obtain ⟨c0, c1, hr0, hr1, hd⟩ := Hcell.out k hlt
      have g0 : wr.cell? (a.add (k * 2)) = _ := (hb.cell (block_lt_of_cell c0)).trans c0
      have e1 : (⟨(a.add (k * 2)).block, (a.add (k * 2)).off + 1, none⟩ : Addr) = a.add (k * 2 + 1) := by
        unfold Addr.add; rcases Nat.eq_zero_or_pos k with h | h
        · subst h; simp
        · rw [if_neg (by omega), if_neg (by omega)]; simp [Nat.add_assoc]
      have g1 : wr.cell? ⟨(a.add (k * 2)).block, (a.add (k * 2)).off + 1, none⟩ = _ := (congrArg wr.cell? e1).trans ((hb.cell (block_lt_of_cell c1)).trans c1)
      obtain ⟨r, hr⟩ : ∃ r, n - k = r + 1 := ⟨n - k - 1, by omega⟩
      have hr' : n - (k + 1) = r := by omega
      rw [hr, ahsW] at heq
      rw [hr, ahsB] at heq2
      clear c0 c1 e1
      generalize I k = x at *
      obtain ⟨kd, d⟩ := x
      unfold maxLen at hd
      simp only at *
      have hbk := heap_alloc_new wr (.cells #[.int .i64 kd, .string (bs d)] 120 (0, 0))
      have hsA : wr.heap.size < (wr.alloc (.cells #[.int .i64 kd, .string (bs d)] 120 (0, 0))).heap.size := by simp
      have hbA := hb.alloc hB (.cells #[.int .i64 kd, .string (bs d)] 120 (0, 0))
      have hb1 := (Below.refl wr.heap.size wr).alloc (Nat.le_refl _) (.cells #[.int .i64 kd, .string (bs d)] 120 (0, 0))
      have q0a := (hb1.cell (p := ⟨w.heap.size, 0, none⟩) hsz).trans q0
      have q1a := (hb1.cell (p := ⟨w.heap.size, 1, none⟩) hsz).trans q1
      have f0a := (hb1.frozen (p := ⟨w.heap.size, 0, none⟩) hsz).trans f0
      have f1a := (hb1.frozen (p := ⟨w.heap.size, 1, none⟩) hsz).trans f1
      have b0 : ∀ (x y : Value) (o : Obj), (((wr.setCell ⟨w.heap.size, 0, none⟩ x).setCell ⟨w.heap.size, 1, none⟩ y).alloc o).cell? ⟨w.heap.size, 0, none⟩ = some x := fun x y o =>
        (((Below.refl _ _).alloc (Nat.le_refl _) o).cell (p := ⟨w.heap.size, 0, none⟩) (by simp; omega)).trans (by simp [go_sem, q0, q1])
      have b1 : ∀ (x y : Value) (o : Obj), (((wr.setCell ⟨w.heap.size, 0, none⟩ x).setCell ⟨w.heap.size, 1, none⟩ y).alloc o).cell? ⟨w.heap.size, 1, none⟩ = some y := fun x y o =>
        (((Below.refl _ _).alloc (Nat.le_refl _) o).cell (p := ⟨w.heap.size, 1, none⟩) (by simp; omega)).trans (by simp [go_sem, q0, q1])
      have Hbk := hid hbk; clear hbk
      have Hblk := hid hblk; clear hblk
      have c4 := fun w h => hid (within_false kd 0 255 w h)
      have c5 := fun w h0 h1 => hid (within_true kd 0 255 w h0 h1)
      by_cases hkd : kd < 0 ∨ 255 < kd
      · rw [if_pos hkd] at heq
        have Heq := hid heq; clear heq heq2
        go_wp2_with (go_at_call 38; refine (c4 _ hkd).out.mono ?_; rintro e w2 ⟨rfl, rfl⟩)
        refine bodyPost_ret (v := .tuple #[.string (bs []), .agg #[.int .i64 2, .int .i64 (k : Nat)]]) (by simp [results, Tryz.results94, go_sem, b0, b1]; rfl) rfl ?_
        refine ⟨by rw [Heq.out]; rfl, ((hb.setCell (Nat.le_refl _) _).setCell (Nat.le_refl _) _).alloc (by simp; omega) _⟩
      · rw [if_neg hkd] at heq
        by_cases hd2 : 2000 < d.length
        · rw [if_pos (.inl (by omega))] at heq
          have Heq := hid heq; clear heq heq2
          go_wp2_with (go_at_call 38; refine (c5 _ (by omega) (by omega)).out.mono ?_; rintro e w2 ⟨rfl, rfl⟩)
          refine bodyPost_ret (v := .tuple #[.string (bs []), .agg #[.int .i64 4, .int .i64 (k : Nat)]]) (by simp [results, Tryz.results94, go_sem, b0, b1]; rfl) rfl ?_
          refine ⟨by rw [Heq.out]; rfl, ((hb.setCell (Nat.le_refl _) _).setCell (Nat.le_refl _) _).alloc (by simp; omega) _⟩
        · have c2 := fun w => hid (number_any d.length 2 w (by omega))
          have hE : putE d.length 2 = 0 := by unfold putE; rw [if_neg (by omega), if_neg (by simp; omega)]
          have hS : putS d.length 2 = be d.length 2 := by unfold putS; rw [if_pos hE]; rfl
          rw [hE, hS] at c2
          have hbw := byte_wrap kd (by omega) (by omega)
          generalize UInt8.ofNat kd.toNat = kb at *
          have hBl : (be d.length 2).length = 2 := be_length _ _
          generalize be d.length 2 = B at *
          have c3 := fun w => hid (rpadded_any (B ++ [kb] ++ d) w (by simp; omega))
          have hP : (padded (B ++ [kb] ++ d)).length = 3 + d.length + padN (3 + d.length) := by unfold padded; rw [List.length_append, List.length_replicate, show (B ++ [kb] ++ d).length = 3 + d.length by simp; omega]
          have hBk : B ++ [kb] ++ d = B ++ kb :: d := by simp
          rw [hBk] at c3 heq2 hP
          clear hBk
          generalize padded (B ++ kb :: d) = X at *
          generalize hp : padN (3 + d.length) = p at *
          have hp4 : p < 4 := hp ▸ padN_lt _
          have cv := fun w => conv1 (P := Tryz.prog) 197 9 5 5 Tryz.underlying197 Tryz.underlying5 Tryz.underlying9 w (kb.toNat : Int)
          rw [byteOf_toNat] at cv
          have s1 : IntKind.u64.wrap (d.length : Int) = (d.length : Int) := by rw [IntKind.wrap_u64]; omega
          have Heq := hid heq; have Heq2 := hid heq2; clear heq heq2
          have hXo : (o ++ X).length = o.length + (3 + d.length + p) := by rw [List.length_append, hP]
          by_cases hl : 1020 < o.length + 3 + d.length + p
          · go_wp2_with first
              | (go_at_call 38; refine (c5 _ (by omega) (by omega)).out.mono ?_; rintro e w2 ⟨rfl, rfl⟩)
              | (go_at_call 95; refine (c2 _).out.mono ?_; rintro e w2 ⟨rfl, hb2⟩; have hc0 : w2.cell? ⟨wr.heap.size, 0, none⟩ = some (.int .i64 kd) := (hb2.cell (p := ⟨wr.heap.size, 0, none⟩) hsA).trans (by rw [cell_of_row _ _ _ _ _ _ Hbk.out]; rfl); have hc1 : w2.cell? ⟨wr.heap.size, 1, none⟩ = some (.string (bs d)) := (hb2.cell (p := ⟨wr.heap.size, 1, none⟩) hsA).trans (by rw [cell_of_row _ _ _ _ _ _ Hbk.out]; rfl); have hbB := hbA.trans (hb2.mono hbA.size); have hc1a := fun o => (((Below.refl w2.heap.size w2).alloc (Nat.le_refl _) o).cell (p := ⟨wr.heap.size, 1, none⟩) (Nat.lt_of_lt_of_le hsA hb2.size)).trans hc1; have hszA : w.heap.size < (wr.alloc (.cells #[.int .i64 kd, .string (bs d)] 120 (0, 0))).heap.size := Nat.lt_trans hsz hsA; have hsz2 : w.heap.size < w2.heap.size := Nat.lt_of_lt_of_le hszA hb2.size; have q0 := (hb2.cell (p := ⟨w.heap.size, 0, none⟩) hszA).trans q0a; have q1 := (hb2.cell (p := ⟨w.heap.size, 1, none⟩) hszA).trans q1a; have f0 := (hb2.frozen (p := ⟨w.heap.size, 0, none⟩) hszA).trans f0a; have f1 := (hb2.frozen (p := ⟨w.heap.size, 1, none⟩) hszA).trans f1a; have hblk2 := (hb2.block w.heap.size hszA).trans ((hb1.block w.heap.size hsz).trans Hblk.out); have Hblk2 := hid hblk2; clear hblk2; have q0y := fun o => (((Below.refl w2.heap.size w2).alloc (Nat.le_refl _) o).cell (p := ⟨w.heap.size, 0, none⟩) hsz2).trans q0; have q1y := fun o => (((Below.refl w2.heap.size w2).alloc (Nat.le_refl _) o).cell (p := ⟨w.heap.size, 1, none⟩) hsz2).trans q1; have f0y := fun o => (((Below.refl w2.heap.size w2).alloc (Nat.le_refl _) o).frozen (p := ⟨w.heap.size, 0, none⟩) hsz2).trans f0; have f1y := fun o => (((Below.refl w2.heap.size w2).alloc (Nat.le_refl _) o).frozen (p := ⟨w.heap.size, 1, none⟩) hsz2).trans f1; have b0y : ∀ (x y : Value) (o : Obj), (((w2.setCell ⟨w.heap.size, 0, none⟩ x).setCell ⟨w.heap.size, 1, none⟩ y).alloc o).cell? ⟨w.heap.size, 0, none⟩ = some x := (fun x y o => (((Below.refl _ _).alloc (Nat.le_refl _) o).cell (p := ⟨w.heap.size, 0, none⟩) (by simp; omega)).trans (by simp [go_sem, q0])); have b1y : ∀ (x y : Value) (o : Obj), (((w2.setCell ⟨w.heap.size, 0, none⟩ x).setCell ⟨w.heap.size, 1, none⟩ y).alloc o).cell? ⟨w.heap.size, 1, none⟩ = some y := (fun x y o => (((Below.refl _ _).alloc (Nat.le_refl _) o).cell (p := ⟨w.heap.size, 1, none⟩) (by simp; omega)).trans (by simp [go_sem, q1])))
              | (go_at_call 129; refine (c3 _).out.mono ?_; rintro e w3 ⟨rfl, rfl⟩)
            refine bodyPost_ret (v := .tuple #[.string (bs []), .agg #[.int .i64 4, .int .i64 (k : Nat)]]) (by simp [results, Tryz.results94, go_sem, b0y, b1y]; rfl) rfl ?_
            refine ⟨by rw [Heq.out, if_pos (show 1020 < d.length ∨ 1020 < o.length + 3 + d.length + p from .inr (by omega))]; rfl, ((hbB.setCell (Nat.le_refl _) _).setCell (Nat.le_refl _) _).alloc (by simp; exact hbB.size) _⟩
          · go_wp2_with first
              | (go_at_call 38; refine (c5 _ (by omega) (by omega)).out.mono ?_; rintro e w2 ⟨rfl, rfl⟩)
              | (go_at_call 95; refine (c2 _).out.mono ?_; rintro e w2 ⟨rfl, hb2⟩; have hc0 : w2.cell? ⟨wr.heap.size, 0, none⟩ = some (.int .i64 kd) := (hb2.cell (p := ⟨wr.heap.size, 0, none⟩) hsA).trans (by rw [cell_of_row _ _ _ _ _ _ Hbk.out]; rfl); have hc1 : w2.cell? ⟨wr.heap.size, 1, none⟩ = some (.string (bs d)) := (hb2.cell (p := ⟨wr.heap.size, 1, none⟩) hsA).trans (by rw [cell_of_row _ _ _ _ _ _ Hbk.out]; rfl); have hbB := hbA.trans (hb2.mono hbA.size); have hc1a := fun o => (((Below.refl w2.heap.size w2).alloc (Nat.le_refl _) o).cell (p := ⟨wr.heap.size, 1, none⟩) (Nat.lt_of_lt_of_le hsA hb2.size)).trans hc1; have hszA : w.heap.size < (wr.alloc (.cells #[.int .i64 kd, .string (bs d)] 120 (0, 0))).heap.size := Nat.lt_trans hsz hsA; have hsz2 : w.heap.size < w2.heap.size := Nat.lt_of_lt_of_le hszA hb2.size; have q0 := (hb2.cell (p := ⟨w.heap.size, 0, none⟩) hszA).trans q0a; have q1 := (hb2.cell (p := ⟨w.heap.size, 1, none⟩) hszA).trans q1a; have f0 := (hb2.frozen (p := ⟨w.heap.size, 0, none⟩) hszA).trans f0a; have f1 := (hb2.frozen (p := ⟨w.heap.size, 1, none⟩) hszA).trans f1a; have hblk2 := (hb2.block w.heap.size hszA).trans ((hb1.block w.heap.size hsz).trans Hblk.out); have Hblk2 := hid hblk2; clear hblk2; have q0y := fun o => (((Below.refl w2.heap.size w2).alloc (Nat.le_refl _) o).cell (p := ⟨w.heap.size, 0, none⟩) hsz2).trans q0; have q1y := fun o => (((Below.refl w2.heap.size w2).alloc (Nat.le_refl _) o).cell (p := ⟨w.heap.size, 1, none⟩) hsz2).trans q1; have f0y := fun o => (((Below.refl w2.heap.size w2).alloc (Nat.le_refl _) o).frozen (p := ⟨w.heap.size, 0, none⟩) hsz2).trans f0; have f1y := fun o => (((Below.refl w2.heap.size w2).alloc (Nat.le_refl _) o).frozen (p := ⟨w.heap.size, 1, none⟩) hsz2).trans f1; have b0y : ∀ (x y : Value) (o : Obj), (((w2.setCell ⟨w.heap.size, 0, none⟩ x).setCell ⟨w.heap.size, 1, none⟩ y).alloc o).cell? ⟨w.heap.size, 0, none⟩ = some x := (fun x y o => (((Below.refl _ _).alloc (Nat.le_refl _) o).cell (p := ⟨w.heap.size, 0, none⟩) (by simp; omega)).trans (by simp [go_sem, q0])); have b1y : ∀ (x y : Value) (o : Obj), (((w2.setCell ⟨w.heap.size, 0, none⟩ x).setCell ⟨w.heap.size, 1, none⟩ y).alloc o).cell? ⟨w.heap.size, 1, none⟩ = some y := (fun x y o => (((Below.refl _ _).alloc (Nat.le_refl _) o).cell (p := ⟨w.heap.size, 1, none⟩) (by simp; omega)).trans (by simp [go_sem, q1])))
              | (go_at_call 129; refine (c3 _).out.mono ?_; rintro e w3 ⟨rfl, rfl⟩)
            go_roundw
            case rel => exact ⟨k + 1, o ++ X, by omega, by omega, by go_num, rfl, by rw [Heq.out, if_neg (by omega), hXo, hr'], by rw [Heq2.out, hr'], hbB.alloc hbB.size _, by simp; omega, (Below.heap_alloc w2 _ _ hsz2).trans Hblk2.out⟩
            case measure => simp [intOf]; omega
    · obtain rfl : k = n := by omega
      have Heq := hid heq; have Heq2 := hid heq2; clear heq heq2
      go_wp2_with (go_at_call 29; refine (good_any _).mono ?_; rintro e w1 ⟨rfl, hb1⟩; have q0 := (hb1.cell (p := ⟨w.heap.size, 0, none⟩) hsz).trans q0; have q1 := (hb1.cell (p := ⟨w.heap.size, 1, none⟩) hsz).trans q1; have f0 := (hb1.frozen (p := ⟨w.heap.size, 0, none⟩) hsz).trans f0; have f1 := (hb1.frozen (p := ⟨w.heap.size, 1, none⟩) hsz).trans f1)
      refine bodyPost_ret (v := .tuple #[.string (bs o), .agg #[.int .i64 0, .int .i64 (-1)]]) (by simp [results, Tryz.results94, go_sem, q0, q1]) rfl ?_
      refine ⟨?_, ((hb.trans (hb1.mono hB)).setCell (Nat.le_refl _) _).setCell (Nat.le_refl _) _⟩
      rw [Heq.out, Heq2.out, Nat.sub_self]; rfl
end Go.Proofs.YtbimlijhgeajjaaGreatDoor
