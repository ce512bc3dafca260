/- What is wrong with pairs, by the document. -/
import Derived.Test.YtbbnnhaboegedaaDoorPairIn
import Derived.Test.YtbbnnhaboegedaaDoorRKey
namespace Go.Proofs.YtbbnnhaboegedaaDoor
open Go.RowKit
set_option linter.unusedVariables false
set_option maxRecDepth 100000
def PRightRPost (l : PL) (w : World) (e : Ending) (w' : World) : Prop := e = .returned (faultV (pairsR l).1 (pairsR l).2) ∧ Below w.heap.size w w'
def RPRightR (l : PL) (w : World) (i : Value) (wr : World) : Prop :=
  ∃ k : Nat, k ≤ l.length ∧ i = .int .i64 (k : Nat) ∧ pairsR l = pairsRG (l.drop k) k ∧ Below w.heap.size w wr ∧ w.heap.size < wr.heap.size ∧
    wr.heap[w.heap.size]? = some (.cells #[.int .i64 0, .int .i64 0] 28 (0, 0))
set_option maxHeartbeats 4000000 in
theorem rpairsRight_any (v : Value) (l : PL) (w : World) (h : PSl w v l) (hbd : PBd l) :
    Calls Tryd.prog 17 #[v] w fun e w' => PRightRPost l w e w' := by
  obtain ⟨hn, hlen⟩ := hbd
  by_cases h60 : 60 < l.length
  · have hR : pairsR l = (4, -1) := by rw [pairsR, if_pos h60]
    have HR := hid hR; clear hR
    rcases h.open_ with ⟨rfl, _⟩ | ⟨h0, b, o, c, rfl, _, _⟩
    · simp at h60
    clear h
    have h60' : decide ((60 : Int) < (l.length : Int)) = true := decide_eq_true (by omega)
    go_enter Tryd.func17, Tryd.ntmps17
    go_wp2_with (go_at_call 44; refine (bareF_any _ _).mono ?_; rintro e w1 ⟨rfl, hb1⟩; have q0 : w1.cell? ⟨w.heap.size, 0, none⟩ = some (.int .i64 0) := (hb1.cell (p := ⟨w.heap.size, 0, none⟩) (by simp)).trans (by simp); have q1 : w1.cell? ⟨w.heap.size, 1, none⟩ = some (.int .i64 0) := (hb1.cell (p := ⟨w.heap.size, 1, none⟩) (by simp)).trans (by simp); have f0 : w1.frozen? ⟨w.heap.size, 0, none⟩ = false := (hb1.frozen (p := ⟨w.heap.size, 0, none⟩) (by simp)).trans (by simp); have f1 : w1.frozen? ⟨w.heap.size, 1, none⟩ = false := (hb1.frozen (p := ⟨w.heap.size, 1, none⟩) (by simp)).trans (by simp))
    refine bodyPost_ret (v := .agg #[.int .i64 4, .int .i64 (-1)]) (by simp [results, Tryd.results17, go_sem, q0, q1]) rfl ?_
    refine ⟨by rw [HR.out]; rfl, ?_⟩
    exact ((((Below.refl _ _).alloc (Nat.le_refl _) _).trans (hb1.mono (by simp))).setCell (Nat.le_refl _) _).setCell (Nat.le_refl _) _
  have hR : pairsR l = pairsRG l 0 := by rw [pairsR, if_neg h60]
  rcases h.open_ with ⟨rfl, a, c, rfl⟩ | ⟨h0, b, o, c, rfl, hbl, hcell⟩
  · clear h hR hlen
    go_enter Tryd.func17, Tryd.ntmps17
    go_wp2
    refine wp_loop_rounds 1 ?_
    rw [rounds_succ]
    go_wp2_with (go_at_call 40; refine (good_any _).mono ?_; rintro e w1 ⟨rfl, hb1⟩; have q0 : w1.cell? ⟨w.heap.size, 0, none⟩ = some (.int .i64 0) := (hb1.cell (p := ⟨w.heap.size, 0, none⟩) (by simp)).trans (by simp); have q1 : w1.cell? ⟨w.heap.size, 1, none⟩ = some (.int .i64 0) := (hb1.cell (p := ⟨w.heap.size, 1, none⟩) (by simp)).trans (by simp); have f0 : w1.frozen? ⟨w.heap.size, 0, none⟩ = false := (hb1.frozen (p := ⟨w.heap.size, 0, none⟩) (by simp)).trans (by simp); have f1 : w1.frozen? ⟨w.heap.size, 1, none⟩ = false := (hb1.frozen (p := ⟨w.heap.size, 1, none⟩) (by simp)).trans (by simp))
    refine bodyPost_ret (v := .agg #[.int .i64 0, .int .i64 (-1)]) (by simp [results, Tryd.results17, go_sem, q0, q1]) rfl ?_
    refine ⟨rfl, ?_⟩
    exact ((((Below.refl _ _).alloc (Nat.le_refl _) _).trans (hb1.mono (by simp))).setCell (Nat.le_refl _) _).setCell (Nat.le_refl _) _
  clear h
  have Hcell := hid hcell; clear hcell
  have HR := hid hR; clear hR
  have Hlen := hid hlen; clear hlen
  have h60' : decide ((60 : Int) < (l.length : Int)) = false := decide_eq_false (by omega)
  go_enter Tryd.func17, Tryd.ntmps17
  go_wp2
  go_loopw [10] (fun i wr => RPRightR l w i wr) (fun i _ => l.length - (intOf i).toNat)
  case atStart => exact ⟨0, by omega, rfl, by rw [HR.out]; rfl, (Below.refl _ _).alloc (Nat.le_refl _) _, by simp, heap_alloc_new _ _⟩
  case round =>
    obtain ⟨k, hk, rfl, heq, hb, hsz, hblk⟩ := hrel
    have hB := hb.size
    have q0 : wr.cell? ⟨w.heap.size, 0, none⟩ = some (.int .i64 0) := by rw [cell_of_row _ _ _ _ _ _ hblk]; rfl
    have q1 : wr.cell? ⟨w.heap.size, 1, none⟩ = some (.int .i64 0) := by rw [cell_of_row _ _ _ _ _ _ hblk]; rfl
    have f0 : wr.frozen? ⟨w.heap.size, 0, none⟩ = false := frozen_of_row _ _ _ _ _ hblk
    have f1 : wr.frozen? ⟨w.heap.size, 1, none⟩ = false := frozen_of_row _ _ _ _ _ hblk
    by_cases hlt : k < l.length
    · obtain ⟨c0, c1⟩ := Hcell.out k hlt
      have g0 := (hb.cell (p := ⟨b, o + k * 2, none⟩) hbl).trans c0
      have g1 := (hb.cell (p := ⟨b, o + k * 2 + 1, none⟩) hbl).trans c1
      obtain ⟨hd0, hd1⟩ := Hlen.out k
      rw [pairsRG_drop l k hlt] at heq
      clear c0 c1
      generalize l.getD k ([], []) = x at *
      obtain ⟨x1, x2⟩ := x
      simp only at *
      have c1 := fun w => hid (rkey_any x1 w hd0)
      have c2 := fun w => hid (rvalue_any x2 w hd1)
      have Hblk := hid hblk; clear hblk
      have hbw : b < wr.heap.size := Nat.lt_of_lt_of_le hbl hB
      cases hk1 : isKey x1 with
      | false =>
        rw [hk1] at c1
        rw [hk1, if_pos rfl] at heq
        have Heq := hid heq; clear heq hk1
        go_wp2_with (go_at_call 19; refine (c1 _).out.mono ?_; rintro e w1 ⟨rfl, hb1⟩; have q0 := (hb1.cell (p := ⟨w.heap.size, 0, none⟩) hsz).trans q0; have q1 := (hb1.cell (p := ⟨w.heap.size, 1, none⟩) hsz).trans q1; have f0 := (hb1.frozen (p := ⟨w.heap.size, 0, none⟩) hsz).trans f0; have f1 := (hb1.frozen (p := ⟨w.heap.size, 1, none⟩) hsz).trans f1)
        refine bodyPost_ret (v := .agg #[.int .i64 5, .int .i64 (k : Nat)]) (by simp [results, Tryd.results17, go_sem, q0, q1]) rfl ?_
        refine ⟨by rw [Heq.out]; rfl, ((hb.trans (hb1.mono hB)).setCell (Nat.le_refl _) _).setCell (Nat.le_refl _) _⟩
      | true =>
        rw [hk1] at c1
        rw [hk1, if_neg (by simp)] at heq
        cases hv2 : isValue x2 with
        | false =>
          rw [hv2] at c2
          rw [hv2, if_pos rfl] at heq
          have Heq := hid heq; clear heq hk1 hv2
          go_wp2_with (go_at_call 19; refine (c1 _).out.mono ?_; rintro e w1 ⟨rfl, hb1⟩; have q0 := (hb1.cell (p := ⟨w.heap.size, 0, none⟩) hsz).trans q0; have q1 := (hb1.cell (p := ⟨w.heap.size, 1, none⟩) hsz).trans q1; have f0 := (hb1.frozen (p := ⟨w.heap.size, 0, none⟩) hsz).trans f0; have f1 := (hb1.frozen (p := ⟨w.heap.size, 1, none⟩) hsz).trans f1; have g1 := (hb1.cell (p := ⟨b, o + k * 2 + 1, none⟩) hbw).trans g1; have hsz := Nat.lt_of_lt_of_le hsz hb1.size; clear c1)
          go_wp2_with (go_at_call 21; refine (c2 _).out.mono ?_; rintro e w2 ⟨rfl, hb2⟩; have q0 := (hb2.cell (p := ⟨w.heap.size, 0, none⟩) hsz).trans q0; have q1 := (hb2.cell (p := ⟨w.heap.size, 1, none⟩) hsz).trans q1; have f0 := (hb2.frozen (p := ⟨w.heap.size, 0, none⟩) hsz).trans f0; have f1 := (hb2.frozen (p := ⟨w.heap.size, 1, none⟩) hsz).trans f1)
          refine bodyPost_ret (v := .agg #[.int .i64 3, .int .i64 (k : Nat)]) (by simp [results, Tryd.results17, go_sem, q0, q1]) rfl ?_
          have hbB := hb.trans (hb1.mono hB)
          refine ⟨by rw [Heq.out]; rfl, ((hbB.trans (hb2.mono hbB.size)).setCell (Nat.le_refl _) _).setCell (Nat.le_refl _) _⟩
        | true =>
          rw [hv2] at c2
          rw [hv2, if_neg (by simp)] at heq
          have Heq := hid heq; clear heq hk1 hv2
          go_wp2_with (go_at_call 19; refine (c1 _).out.mono ?_; rintro e w1 ⟨rfl, hb1⟩; have g1 := (hb1.cell (p := ⟨b, o + k * 2 + 1, none⟩) hbw).trans g1; clear c1)
          go_wp2_with (go_at_call 21; refine (c2 _).out.mono ?_; rintro e w2 ⟨rfl, hb2⟩)
          have hbB := hb.trans (hb1.mono hB)
          have hbC := hbB.trans (hb2.mono hbB.size)
          go_roundw
          case rel => exact ⟨k + 1, by omega, by go_num, Heq.out, hbC, Nat.lt_of_lt_of_le hsz (Nat.le_trans hb1.size hb2.size), (hb2.block _ (Nat.lt_of_lt_of_le hsz hb1.size)).trans ((hb1.block _ hsz).trans Hblk.out)⟩
          case measure => simp [intOf]; omega
    · obtain rfl : k = l.length := by omega
      have Heq := hid heq; clear heq
      have Hblk := hid hblk; clear hblk
      go_wp2_with (go_at_call 40; refine (good_any _).mono ?_; rintro e w1 ⟨rfl, hb1⟩; have q0 := (hb1.cell (p := ⟨w.heap.size, 0, none⟩) hsz).trans q0; have q1 := (hb1.cell (p := ⟨w.heap.size, 1, none⟩) hsz).trans q1; have f0 := (hb1.frozen (p := ⟨w.heap.size, 0, none⟩) hsz).trans f0; have f1 := (hb1.frozen (p := ⟨w.heap.size, 1, none⟩) hsz).trans f1)
      refine bodyPost_ret (v := .agg #[.int .i64 0, .int .i64 (-1)]) (by simp [results, Tryd.results17, go_sem, q0, q1]) rfl ?_
      refine ⟨by rw [Heq.out, List.drop_length]; rfl, ((hb.trans (hb1.mono hB)).setCell (Nat.le_refl _) _).setCell (Nat.le_refl _) _⟩
end Go.Proofs.YtbbnnhaboegedaaDoor
