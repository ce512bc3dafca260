/- What may be a pair's key: the document's word. -/
import Derived.Test.YtbimlijhgeajjaaGreatDoorSplitPure
import Derived.Test.YtbimlijhgeajjaaGreatDoorShelfL
import Derived.Test.YtbimlijhgeajjaaGreatDoorClone
import Derived.Test.YtbimlijhgeajjaaGreatDoorFits
import Derived.Test.YtbimlijhgeajjaaGreatDoorSeen
import Derived.StillTailTactics
set_option linter.unusedSectionVars false
set_option linter.unusedSimpArgs false
set_option linter.unusedVariables false
namespace Go.Proofs.YtbimlijhgeajjaaGreatDoor
open Go.RowKit
set_option linter.unusedVariables false
set_option maxRecDepth 100000
def upL : List UInt8 := [65, 66, 67, 68, 69, 70, 71, 72, 73, 74, 75, 76, 77, 78, 79, 80, 81, 82, 83, 84, 85, 86, 87, 88, 89, 90]
def lowL : List UInt8 := [97, 98, 99, 100, 101, 102, 103, 104, 105, 106, 107, 108, 109, 110, 111, 112, 113, 114, 115, 116, 117, 118, 119, 120, 121, 122]
def restL : List UInt8 := [48, 49, 50, 51, 52, 53, 54, 55, 56, 57, 46, 45, 43, 64, 95]
theorem low_any (w : World) : Calls Tryz.prog 110 #[.string (bs upL)] w fun e w' => e = .returned (.string (bs lowL)) ∧ Below w.heap.size w w' := by
  refine (Tryz.strings_ToLower_ascii (bs upL) w (by rw [bs_size]; decide) ?_).mono ?_
  · have h : ∀ b ∈ upL, b.toNat < 128 := by decide
    intro j b hb
    exact h b (List.mem_of_getElem? hb)
  · rintro e w' ⟨rfl, hb⟩
    exact ⟨rfl, hb⟩
theorem up_idx : ∀ n, n < 256 → decide (Lib.indexByte upL (UInt8.ofNat n) < 0) = !great (UInt8.ofNat n) := by decide +kernel
theorem all_idx : ∀ n, n < 256 → decide (Lib.indexByte (upL ++ (lowL ++ restL)) (UInt8.ofNat n) < 0) = !(great (UInt8.ofNat n) || more (UInt8.ofNat n)) := by decide +kernel
theorem up_idx' (c : UInt8) : decide (Lib.indexByte upL c < 0) = !great c := by
  have := up_idx c.toNat c.toNat_lt; rwa [UInt8.ofNat_toNat] at this
theorem all_idx' (c : UInt8) : decide (Lib.indexByte (upL ++ (lowL ++ restL)) c < 0) = !(great c || more c) := by
  have := all_idx c.toNat c.toNat_lt; rwa [UInt8.ofNat_toNat] at this
def RRKey (l : List UInt8) (w w1 : World) (i : Value) (wr : World) : Prop :=
  ∃ k : Nat, k ≤ l.length ∧ i = .int .i64 k ∧ keyFrom 0 l = keyFrom k (l.drop k) ∧ Below w1.heap.size w1 wr
set_option maxHeartbeats 4000000 in
theorem rkey_any (l : List UInt8) (w : World) (hl : l.length ≤ 9223372036854775807) :
    Calls Tryz.prog 66 #[.string (bs l)] w fun e w' => e = .returned (.bool (isKey l)) ∧ Below w.heap.size w w' := by
  have cv := fun w => conv_sb (P := Tryz.prog) 9 197 5 Tryz.underlying9 Tryz.underlying197 Tryz.underlying5 (bs l) w
  obtain ⟨cp, w1, hrun, hcp, hcell, hb1, hsz1, _⟩ := cv w
  rw [bs_size] at hrun
  clear cv
  have hcell' : ∀ j (h : j < l.length), w1.cell? ⟨w.heap.size, j, none⟩ = some (.int .u8 (l[j].toNat : Nat)) := fun j h => (hcell j (by rw [bs_size]; exact h)).trans rfl
  have Hcell := hid hcell'; clear hcell hcell'
  have hu : (⟨#[65, 66, 67, 68, 69, 70, 71, 72, 73, 74, 75, 76, 77, 78, 79, 80, 81, 82, 83, 84, 85, 86, 87, 88, 89, 90]⟩ : ByteArray) = bs upL := rfl
  have hr : (⟨#[48, 49, 50, 51, 52, 53, 54, 55, 56, 57, 46, 45, 43, 64, 95]⟩ : ByteArray) = bs restL := rfl
  have c3 := fun w => hid (low_any w)
  have ui := fun c => hid (up_idx' c)
  have ai := fun c => hid (all_idx' c)
  have hulen : upL.length ≤ 100 := by decide
  have hallen : (upL ++ (lowL ++ restL)).length ≤ 100 := by decide
  have hn1 : ¬ 9223372036854775807 < lowL.length + restL.length := by decide
  have hn2 : ¬ 9223372036854775807 < upL.length + (lowL.length + restL.length) := by decide
  generalize upL = U at *
  generalize lowL = W at *
  generalize restL = R at *
  go_enter Tryz.func66, Tryz.ntmps66
  go_wp2
  go_loopw [9] (fun i wr => RRKey l w w1 i wr) (fun i _ => l.length - (intOf i).toNat)
  case atStart => exact ⟨0, by omega, rfl, rfl, Below.refl _ _⟩
  case round =>
    obtain ⟨k, hk, rfl, hall, hb⟩ := hrel
    by_cases hlt : k < l.length
    · have hx : l[k].toNat < 256 := l[k].toNat_lt
      have hc := (hb.cell (p := ⟨w.heap.size, k, none⟩) (by simp; omega)).trans (Hcell.out k hlt)
      rw [List.drop_eq_getElem_cons hlt, keyFrom] at hall
      by_cases h0 : k = 0
      · have hk0 : kOk k l[k] = great l[k] := by rw [kOk]; simp [h0]
        rw [hk0] at hall
        have Hall := hid hall; clear hall hk0
        subst h0
        have c1 := fun w => hid (sIndexByte_any U l[0] w (by omega))
        have hui := (ui l[0]).out
        generalize Lib.indexByte U l[0] = ib at *
        cases hg : great l[0] with
        | true =>
          rw [hg] at Hall hui
          have hib : ¬ ib < 0 := of_decide_eq_false hui
          clear hui hg
          go_wp2_with (go_at_call 111; refine (c1 _).out.mono ?_; rintro e w1 ⟨rfl, rfl⟩)
          go_roundw
          case rel => exact ⟨0 + 1, by omega, by go_num, by rw [Hall.out]; simp, hb⟩
          case measure => simp [intOf]; omega
        | false =>
          rw [hg] at Hall hui
          have hib : ib < 0 := of_decide_eq_true hui
          clear hui hg
          go_wp2_with (go_at_call 111; refine (c1 _).out.mono ?_; rintro e w1 ⟨rfl, rfl⟩)
          go_ret
          exact ⟨by rw [isKey, Hall.out]; simp, hb1.trans (hb.mono hb1.size)⟩
      · have hk0 : kOk k l[k] = (great l[k] || more l[k]) := by rw [kOk, decide_eq_true (show 0 < k by omega), Bool.true_and]
        rw [hk0] at hall
        have Hall := hid hall; clear hall hk0
        have c1 := fun w => hid (sIndexByte_any (U ++ (W ++ R)) l[k] w (by omega))
        have hui := (ai l[k]).out
        generalize Lib.indexByte (U ++ (W ++ R)) l[k] = ib at *
        have hkI : decide (0 < (k : Int)) = true := decide_eq_true (by omega)
        have hkN : 0 < k := by omega
        cases hg : (great l[k] || more l[k]) with
        | true =>
          rw [hg] at Hall hui
          have hib : ¬ ib < 0 := of_decide_eq_false hui
          clear hui hg
          go_wp2_with first
            | (go_at_call 110; refine (c3 _).out.mono ?_; rintro e w2 ⟨rfl, hb2⟩)
            | (go_at_call 111; refine (c1 _).out.mono ?_; rintro e w3 ⟨rfl, rfl⟩)
          go_roundw
          case rel => exact ⟨k + 1, by omega, by go_num, by rw [Hall.out]; simp, hb.trans (hb2.mono hb.size)⟩
          case measure => simp [intOf]; omega
        | false =>
          rw [hg] at Hall hui
          have hib : ib < 0 := of_decide_eq_true hui
          clear hui hg
          go_wp2_with first
            | (go_at_call 110; refine (c3 _).out.mono ?_; rintro e w2 ⟨rfl, hb2⟩)
            | (go_at_call 111; refine (c1 _).out.mono ?_; rintro e w3 ⟨rfl, rfl⟩)
          go_ret
          have hbA := hb1.trans (hb.mono hb1.size)
          exact ⟨by rw [isKey, Hall.out]; simp, hbA.trans (hb2.mono hbA.size)⟩
    · obtain rfl : k = l.length := by omega
      rw [List.drop_length] at hall
      have Hall := hid hall; clear hall
      by_cases hw : 1 ≤ l.length ∧ l.length ≤ 63
      · have c5 := fun w => hid (within_true (l.length : Nat) 1 63 w (by omega) (by omega))
        go_wp2_with (go_at_call 38; refine (c5 _).out.mono ?_; rintro e w2 ⟨rfl, rfl⟩)
        go_ret
        refine ⟨?_, hb1.trans (hb.mono hb1.size)⟩
        rw [isKey, Hall.out, keyFrom, decide_eq_true hw.1, decide_eq_true hw.2]; rfl
      · have c5 := fun w => hid (within_false (l.length : Nat) 1 63 w (by omega))
        go_wp2_with (go_at_call 38; refine (c5 _).out.mono ?_; rintro e w2 ⟨rfl, rfl⟩)
        go_ret
        refine ⟨?_, hb1.trans (hb.mono hb1.size)⟩
        rw [isKey, Hall.out, keyFrom]
        have : (true && decide (1 ≤ l.length) && decide (l.length ≤ 63)) = false := by simp; omega
        rw [this]; rfl
end Go.Proofs.YtbimlijhgeajjaaGreatDoor

namespace Go.Proofs.YtbimlijhgeajjaaGreatDoor
open Go.RowKit
set_option linter.unusedVariables false
set_option maxRecDepth 100000
def PRightRPost (l : PL) (w : World) (e : Ending) (w' : World) : Prop := e = .returned (faultV (pairsR l).1 (pairsR l).2) ∧ Below w.heap.size w w'
def RPRightR (l : PL) (w : World) (i : Value) (wr : World) : Prop :=
  ∃ k : Nat, k ≤ l.length ∧ i = .int .i64 (k : Nat) ∧ pairsR l = pairsRG (l.drop k) k ∧ Below w.heap.size w wr ∧ w.heap.size < wr.heap.size ∧
    wr.heap[w.heap.size]? = some (.cells #[.int .i64 0, .int .i64 0] 34 (0, 0))
set_option maxHeartbeats 4000000 in
theorem rpairsRight_any (v : Value) (l : PL) (w : World) (h : PSl w v l) (hbd : PBd l) :
    Calls Tryz.prog 27 #[v] w fun e w' => PRightRPost l w e w' := by
  obtain ⟨hn, hlen⟩ := hbd
  by_cases h60 : 60 < l.length
  · have hR : pairsR l = (4, -1) := by rw [pairsR, if_pos h60]
    have HR := hid hR; clear hR
    rcases h.open_ with ⟨rfl, _⟩ | ⟨h0, b, o, c, rfl, _, _⟩
    · simp at h60
    clear h
    have h60' : decide ((60 : Int) < (l.length : Int)) = true := decide_eq_true (by omega)
    go_enter Tryz.func27, Tryz.ntmps27
    go_wp2_with (go_at_call 65; refine (bareF_any _ _).mono ?_; rintro e w1 ⟨rfl, hb1⟩; have q0 : w1.cell? ⟨w.heap.size, 0, none⟩ = some (.int .i64 0) := (hb1.cell (p := ⟨w.heap.size, 0, none⟩) (by simp)).trans (by simp); have q1 : w1.cell? ⟨w.heap.size, 1, none⟩ = some (.int .i64 0) := (hb1.cell (p := ⟨w.heap.size, 1, none⟩) (by simp)).trans (by simp); have f0 : w1.frozen? ⟨w.heap.size, 0, none⟩ = false := (hb1.frozen (p := ⟨w.heap.size, 0, none⟩) (by simp)).trans (by simp); have f1 : w1.frozen? ⟨w.heap.size, 1, none⟩ = false := (hb1.frozen (p := ⟨w.heap.size, 1, none⟩) (by simp)).trans (by simp))
    refine bodyPost_ret (v := .agg #[.int .i64 4, .int .i64 (-1)]) (by simp [results, Tryz.results27, go_sem, q0, q1]) rfl ?_
    refine ⟨by rw [HR.out]; rfl, ?_⟩
    exact ((((Below.refl _ _).alloc (Nat.le_refl _) _).trans (hb1.mono (by simp))).setCell (Nat.le_refl _) _).setCell (Nat.le_refl _) _
  have hR : pairsR l = pairsRG l 0 := by rw [pairsR, if_neg h60]
  rcases h.open_ with ⟨rfl, a, c, rfl⟩ | ⟨h0, b, o, c, rfl, hbl, hcell⟩
  · clear h hR hlen
    go_enter Tryz.func27, Tryz.ntmps27
    go_wp2
    refine wp_loop_rounds 1 ?_
    rw [rounds_succ]
    go_wp2_with (go_at_call 29; refine (good_any _).mono ?_; rintro e w1 ⟨rfl, hb1⟩; have q0 : w1.cell? ⟨w.heap.size, 0, none⟩ = some (.int .i64 0) := (hb1.cell (p := ⟨w.heap.size, 0, none⟩) (by simp)).trans (by simp); have q1 : w1.cell? ⟨w.heap.size, 1, none⟩ = some (.int .i64 0) := (hb1.cell (p := ⟨w.heap.size, 1, none⟩) (by simp)).trans (by simp); have f0 : w1.frozen? ⟨w.heap.size, 0, none⟩ = false := (hb1.frozen (p := ⟨w.heap.size, 0, none⟩) (by simp)).trans (by simp); have f1 : w1.frozen? ⟨w.heap.size, 1, none⟩ = false := (hb1.frozen (p := ⟨w.heap.size, 1, none⟩) (by simp)).trans (by simp))
    refine bodyPost_ret (v := .agg #[.int .i64 0, .int .i64 (-1)]) (by simp [results, Tryz.results27, go_sem, q0, q1]) rfl ?_
    refine ⟨rfl, ?_⟩
    exact ((((Below.refl _ _).alloc (Nat.le_refl _) _).trans (hb1.mono (by simp))).setCell (Nat.le_refl _) _).setCell (Nat.le_refl _) _
  clear h
  have Hcell := hid hcell; clear hcell
  have HR := hid hR; clear hR
  have Hlen := hid hlen; clear hlen
  have h60' : decide ((60 : Int) < (l.length : Int)) = false := decide_eq_false (by omega)
  go_enter Tryz.func27, Tryz.ntmps27
  go_wp2
  go_loopw [10] (fun i wr => RPRightR l w i wr) (fun i _ => l.length - (intOf i).toNat)
  case atStart => exact ⟨0, by omega, rfl, by rw [HR.out]; rfl, (Below.refl _ _).alloc (Nat.le_refl _) _, by simp, heap_alloc_new _ _⟩
  case round =>
    obtain ⟨k, hk, rfl, heq, hb, hsz, hblk⟩ := hrel
    have hB := hb.size
    have q0 : wr.cell? ⟨w.heap.size, 0, none⟩ = some (.int .i64 0) := by rw [cell_of_row _ _ _ _ _ _ hblk]; rfl
    have q1 : wr.cell? ⟨w.heap.size, 1, none⟩ = some (.int .i64 0) := by rw [cell_of_row _ _ _ _ _ _ hblk]; rfl
    have f0 : wr.frozen? ⟨w.heap.size, 0, none⟩ = false := frozen_of_row _ _ _ _ _ hblk
    have f1 : wr.frozen? ⟨w.heap.size, 1, none⟩ = false := frozen_of_row _ _ _ _ _ hblk
    by_cases hlt : k < l.length
    · obtain ⟨c0, c1⟩ := Hcell.out k hlt
      have g0 := (hb.cell (p := ⟨b, o + k * 2, none⟩) hbl).trans c0
      have g1 := (hb.cell (p := ⟨b, o + k * 2 + 1, none⟩) hbl).trans c1
      obtain ⟨hd0, hd1⟩ := Hlen.out k
      rw [pairsRG_drop l k hlt] at heq
      clear c0 c1
      generalize l.getD k ([], []) = x at *
      obtain ⟨x1, x2⟩ := x
      simp only at *
      have c1 := fun w => hid (rkey_any x1 w hd0)
      have c2 := fun w => hid (rvalue_any x2 w hd1)
      have Hblk := hid hblk; clear hblk
      have hbw : b < wr.heap.size := Nat.lt_of_lt_of_le hbl hB
      cases hk1 : isKey x1 with
      | false =>
        rw [hk1] at c1
        rw [hk1, if_pos rfl] at heq
        have Heq := hid heq; clear heq hk1
        go_wp2_with (go_at_call 66; refine (c1 _).out.mono ?_; rintro e w1 ⟨rfl, hb1⟩; have q0 := (hb1.cell (p := ⟨w.heap.size, 0, none⟩) hsz).trans q0; have q1 := (hb1.cell (p := ⟨w.heap.size, 1, none⟩) hsz).trans q1; have f0 := (hb1.frozen (p := ⟨w.heap.size, 0, none⟩) hsz).trans f0; have f1 := (hb1.frozen (p := ⟨w.heap.size, 1, none⟩) hsz).trans f1)
        refine bodyPost_ret (v := .agg #[.int .i64 5, .int .i64 (k : Nat)]) (by simp [results, Tryz.results27, go_sem, q0, q1]) rfl ?_
        refine ⟨by rw [Heq.out]; rfl, ((hb.trans (hb1.mono hB)).setCell (Nat.le_refl _) _).setCell (Nat.le_refl _) _⟩
      | true =>
        rw [hk1] at c1
        rw [hk1, if_neg (by simp)] at heq
        cases hv2 : isValue x2 with
        | false =>
          rw [hv2] at c2
          rw [hv2, if_pos rfl] at heq
          have Heq := hid heq; clear heq hk1 hv2
          go_wp2_with (go_at_call 66; refine (c1 _).out.mono ?_; rintro e w1 ⟨rfl, hb1⟩; have q0 := (hb1.cell (p := ⟨w.heap.size, 0, none⟩) hsz).trans q0; have q1 := (hb1.cell (p := ⟨w.heap.size, 1, none⟩) hsz).trans q1; have f0 := (hb1.frozen (p := ⟨w.heap.size, 0, none⟩) hsz).trans f0; have f1 := (hb1.frozen (p := ⟨w.heap.size, 1, none⟩) hsz).trans f1; have g1 := (hb1.cell (p := ⟨b, o + k * 2 + 1, none⟩) hbw).trans g1; have hsz := Nat.lt_of_lt_of_le hsz hb1.size; clear c1)
          go_wp2_with (go_at_call 67; refine (c2 _).out.mono ?_; rintro e w2 ⟨rfl, hb2⟩; have q0 := (hb2.cell (p := ⟨w.heap.size, 0, none⟩) hsz).trans q0; have q1 := (hb2.cell (p := ⟨w.heap.size, 1, none⟩) hsz).trans q1; have f0 := (hb2.frozen (p := ⟨w.heap.size, 0, none⟩) hsz).trans f0; have f1 := (hb2.frozen (p := ⟨w.heap.size, 1, none⟩) hsz).trans f1)
          refine bodyPost_ret (v := .agg #[.int .i64 3, .int .i64 (k : Nat)]) (by simp [results, Tryz.results27, go_sem, q0, q1]) rfl ?_
          have hbB := hb.trans (hb1.mono hB)
          refine ⟨by rw [Heq.out]; rfl, ((hbB.trans (hb2.mono hbB.size)).setCell (Nat.le_refl _) _).setCell (Nat.le_refl _) _⟩
        | true =>
          rw [hv2] at c2
          rw [hv2, if_neg (by simp)] at heq
          have Heq := hid heq; clear heq hk1 hv2
          go_wp2_with (go_at_call 66; refine (c1 _).out.mono ?_; rintro e w1 ⟨rfl, hb1⟩; have g1 := (hb1.cell (p := ⟨b, o + k * 2 + 1, none⟩) hbw).trans g1; clear c1)
          go_wp2_with (go_at_call 67; refine (c2 _).out.mono ?_; rintro e w2 ⟨rfl, hb2⟩)
          have hbB := hb.trans (hb1.mono hB)
          have hbC := hbB.trans (hb2.mono hbB.size)
          go_roundw
          case rel => exact ⟨k + 1, by omega, by go_num, Heq.out, hbC, Nat.lt_of_lt_of_le hsz (Nat.le_trans hb1.size hb2.size), (hb2.block _ (Nat.lt_of_lt_of_le hsz hb1.size)).trans ((hb1.block _ hsz).trans Hblk.out)⟩
          case measure => simp [intOf]; omega
    · obtain rfl : k = l.length := by omega
      have Heq := hid heq; clear heq
      have Hblk := hid hblk; clear hblk
      go_wp2_with (go_at_call 29; refine (good_any _).mono ?_; rintro e w1 ⟨rfl, hb1⟩; have q0 := (hb1.cell (p := ⟨w.heap.size, 0, none⟩) hsz).trans q0; have q1 := (hb1.cell (p := ⟨w.heap.size, 1, none⟩) hsz).trans q1; have f0 := (hb1.frozen (p := ⟨w.heap.size, 0, none⟩) hsz).trans f0; have f1 := (hb1.frozen (p := ⟨w.heap.size, 1, none⟩) hsz).trans f1)
      refine bodyPost_ret (v := .agg #[.int .i64 0, .int .i64 (-1)]) (by simp [results, Tryz.results27, go_sem, q0, q1]) rfl ?_
      refine ⟨by rw [Heq.out, List.drop_length]; rfl, ((hb.trans (hb1.mono hB)).setCell (Nat.le_refl _) _).setCell (Nat.le_refl _) _⟩
end Go.Proofs.YtbimlijhgeajjaaGreatDoor

namespace Go.Proofs.YtbimlijhgeajjaaGreatDoor
open Go.RowKit
set_option linter.unusedVariables false
set_option maxRecDepth 100000
theorem faultIs_any (k : Nat) (pl : Int) (w : World) :
    Calls Tryz.prog 7 #[faultV k pl] w fun e w' => e = .returned (.bool (decide (k = 0))) ∧ Below w.heap.size w w' := by
  unfold faultV
  by_cases hk : k = 0
  · subst hk
    go_enter Tryz.func7, Tryz.ntmps7
    go_wp2
    go_ret
    exact ⟨rfl, (Below.refl _ _).alloc (Nat.le_refl _) _⟩
  · have hb : ((k : Int) == 0) = false := by rw [beq_eq_false_iff_ne]; omega
    rw [decide_eq_false hk]
    clear hk
    go_enter Tryz.func7, Tryz.ntmps7
    go_wp2
    go_ret
    exact ⟨rfl, (Below.refl _ _).alloc (Nat.le_refl _) _⟩
end Go.Proofs.YtbimlijhgeajjaaGreatDoor

namespace Go.Proofs.YtbimlijhgeajjaaGreatDoor
open Go Go.RowKit
set_option linter.unusedVariables false
set_option linter.unusedSectionVars false
set_option linter.unusedSimpArgs false
set_option maxRecDepth 100000
theorem findP_has (l : PL) (key : List UInt8) : (findP l key).2 = (l.map (·.1)).contains key := by
  induction l with
  | nil => rfl
  | cons p l ih =>
    rw [findP, List.map_cons, List.contains_cons]
    by_cases h : p.1 = key
    · rw [if_pos h, h]; simp
    · rw [if_neg h, ih, beq_eq_false_iff_ne.2 (fun e => h e.symm), Bool.false_or]
/-- a Nego of the document's, that nothing came of yet -/
def RNegoAt (w : World) (B g : Nat) (v : Value) : Prop := B ≤ g ∧ w.heap[g]? = some (.cells #[v, .slice none 0 0] 89 (0, 0))
def RNegoPost (v : Value) (l : PL) (w : World) (e : Ending) (w' : World) : Prop :=
  (∃ p, e = .returned (.tuple #[.pointer p, faultV (negoP l).1 (negoP l).2]) ∧ ((negoP l).1 ≠ 0 → p = none) ∧ ((negoP l).1 = 0 → ∃ g, p = some ⟨g, 0, none⟩ ∧ RNegoAt w' w.heap.size g v)) ∧ Below w.heap.size w w'
/-- the result's block is as it was laid -/
def ResF (p : Nat) (w : World) : Prop := w.heap[p]? = some (.cells #[.int .i64 0, .int .i64 0] 34 (0, 0))
theorem ResF.c0 {p : Nat} {w : World} (h : ResF p w) : w.cell? ⟨p, 0, none⟩ = some (.int .i64 0) := by rw [cell_of_row _ _ _ _ _ _ h]; rfl
theorem ResF.c1 {p : Nat} {w : World} (h : ResF p w) : w.cell? ⟨p, 1, none⟩ = some (.int .i64 0) := by rw [cell_of_row _ _ _ _ _ _ h]; rfl
theorem ResF.f0 {p : Nat} {w : World} (h : ResF p w) : w.frozen? ⟨p, 0, none⟩ = false := frozen_of_row _ _ _ _ _ h
theorem ResF.f1 {p : Nat} {w : World} (h : ResF p w) : w.frozen? ⟨p, 1, none⟩ = false := frozen_of_row _ _ _ _ _ h
theorem ResF.lt {p : Nat} {w : World} (h : ResF p w) : p < w.heap.size := (Array.getElem?_eq_some_iff.1 h).1
theorem ResF.below {p : Nat} {w w' : World} (h : ResF p w) (hb : Below w.heap.size w w') : ResF p w' := (hb.block p h.lt).trans h
def RNewR (l : PL) (w : World) (b : Nat) (i : Value) (wr : World) : Prop :=
  ∃ (k : Nat) (seen : List (List UInt8)), k ≤ l.length ∧ i = .int .i64 (k : Nat) ∧ Hid (∀ y, seen.contains y = ((l.take k).map (·.1)).contains y) ∧ Hid (GoodAhead l k) ∧ SeenM wr b k seen ∧ ResF w.heap.size wr ∧ Below w.heap.size w wr ∧ b < wr.heap.size
section
variable (v : Value) (l : PL) (w : World) (h : PSl w v l) (hbd : PBd l) (hn : l.length ≤ 100000) (hsz : ∀ k, (l.getD k ([], [])).2.length ≤ 100000) (hP : PT w)
include h hbd hn hsz hP
set_option maxHeartbeats 8000000 in
theorem rnew_any : Calls Tryz.prog 5 #[v] w fun e w' => RNegoPost v l w e w' := by
  have hA := (Below.refl w.heap.size w).alloc (Nat.le_refl _) (.cells #[.int .i64 0, .int .i64 0] 34)
  have F0 : ResF w.heap.size (w.alloc (.cells #[.int .i64 0, .int .i64 0] 34)) := heap_alloc_new _ _
  have cp := hid (rpairsRight_any v l _ (h.below hA) hbd)
  unfold PRightRPost faultV at cp
  have cis := fun k pl W => hid (faultIs_any k pl W)
  unfold faultV at cis
  have HF := hid F0; have HA := hid hA
  clear F0 hA
  go_enter Tryz.func5, Tryz.ntmps5
  go_wp2_with fail
  refine cp.out.mono ?_
  rintro e w1 ⟨rfl, hb1⟩
  have F1 := HF.out.below hb1
  have b1 := HA.out.trans (hb1.mono HA.out.size)
  have hp1 := F1.lt
  have bB := b1.alloc b1.size (.cells #[.int .i64 ((pairsR l).1 : Nat), .int .i64 (pairsR l).2] 34)
  have F2 : ResF w.heap.size (w1.alloc (.cells #[.int .i64 ((pairsR l).1 : Nat), .int .i64 (pairsR l).2] 34)) := F1.below ((Below.refl _ _).alloc (Nat.le_refl _) _)
  have p0 : (w1.alloc (.cells #[.int .i64 ((pairsR l).1 : Nat), .int .i64 (pairsR l).2] 34)).cell? ⟨w1.heap.size, 0, none⟩ = some (.int .i64 ((pairsR l).1 : Nat)) := by simp
  have p1 : (w1.alloc (.cells #[.int .i64 ((pairsR l).1 : Nat), .int .i64 (pairsR l).2] 34)).cell? ⟨w1.heap.size, 1, none⟩ = some (.int .i64 (pairsR l).2) := by simp
  go_wp2_with fail
  refine (cis _ _ _).out.mono ?_
  rintro e w2 ⟨rfl, hb2⟩
  have F3 := F2.below hb2
  have b2 := bB.trans (hb2.mono bB.size)
  have p0 := (hb2.cell (p := ⟨w1.heap.size, 0, none⟩) (by simp)).trans p0
  have p1 := (hb2.cell (p := ⟨w1.heap.size, 1, none⟩) (by simp)).trans p1
  by_cases hp0 : (pairsR l).1 = 0
  · rw [decide_eq_true hp0]
    have HAT := hid (fun k hk hb ha => negoP_at l k hp0 hk hb ha)
    have HGD := hid (fun ha => negoP_good l hp0 ha)
    have ck := fun k W (hb : Below w.heap.size w W) => hid (rfits_any (l.getD k ([], [])).1 (l.getD k ([], [])).2 W (hsz k))
    have hF := h
    obtain ⟨sa, sc, rfl, _, _⟩ := hF
    have HS := hid h
    have hmm := @run_makeMap Tryz.prog
    have hM0 := SeenM.made w2
    have bM := b2.alloc b2.size (.map #[] 0)
    have FM : ResF w.heap.size (w2.alloc (.map #[] 0)) := F3.below ((Below.refl _ _).alloc (Nat.le_refl _) _)
    have hmb : w2.heap.size < (w2.alloc (.map #[] 0)).heap.size := by simp
    have HM := hid hM0
    have HFM := hid FM
    clear h hsz hP hp0 cp p0 p1 hM0 FM
    go_wp2
    go_loopw [18] (fun i wr => RNewR l w w2.heap.size i wr) (fun i _ => l.length - (intOf i).toNat)
    case atStart => exact ⟨0, [], by omega, rfl, hid (fun y => by simp), hid (fun j hj => absurd hj (by omega)), HM.out, HFM.out, bM, hmb⟩
    case round =>
      obtain ⟨k, seen, hk, rfl, hse, HA, hM, hF, hb, hbb⟩ := hrel
      have hB := hb.size
      have q0 := hF.c0
      have q1 := hF.c1
      have q2 := hF.f0
      have q3 := hF.f1
      by_cases hlt : k < l.length
      · obtain ⟨_, b, o, c, hveq, hbl, hcell⟩ := (HS.out.below hb).open_.resolve_left (by rintro ⟨rfl, _⟩; simp at hlt)
        cases hveq
        obtain ⟨g0, g1⟩ := hcell k hlt
        have hx1 := (hbd.2 k).1
        have HAT := hid (HAT.out k hlt)
        have HGA := hid (fun hk0 => HA.out.step hk0)
        have HGO := hid HA.out
        have hcon : (findP (l.take k) (l.getD k ([], [])).1).2 = seen.contains (l.getD k ([], [])).1 := by rw [findP_has, hse.out]
        have HBK := hid (show badK l k = if seen.contains (l.getD k ([], [])).1 = true then 9 else fitsP (l.getD k ([], [])).1 (l.getD k ([], [])).2 by rw [← hcon]; rfl)
        have HSE := hid (show ∀ y, ((l.getD k ([], [])).1 :: seen).contains y = ((l.take (k + 1)).map (·.1)).contains y from fun y => by
          rw [List.take_succ_eq_append_getElem hlt, List.map_append, List.contains_append, ← hse.out, List.contains_cons, List.getD, List.getElem?_eq_getElem hlt]
          simp only [List.map_cons, List.map_nil, List.contains_cons, List.contains_nil, Bool.or_false, Option.getD_some]
          rw [Bool.or_comm])
        have ck1 := ck k
        clear hcell ck HA hcon hse
        generalize l.getD k ([], []) = x at *
        obtain ⟨x1, x2⟩ := x
        simp only at *
        obtain ⟨W6, hW6⟩ : ∃ W6, wr.alloc (.cells #[.string (bs x1), .string (bs x2)] 83) = W6 := ⟨_, rfl⟩
        have hA6 : Below wr.heap.size wr W6 := by rw [← hW6]; exact (Below.refl _ _).alloc (Nat.le_refl _) _
        have b6 := hb.trans (hA6.mono hB)
        have p0 : W6.cell? ⟨wr.heap.size, 0, none⟩ = some (.string (bs x1)) := by rw [← hW6]; simp
        have p1 : W6.cell? ⟨wr.heap.size, 1, none⟩ = some (.string (bs x2)) := by rw [← hW6]; simp
        have hM6 := MapAs.below hM hA6
        have hF6 := hF.below hA6
        have q0 := hF6.c0
        have q1 := hF6.c1
        have q2 := hF6.f0
        have q3 := hF6.f1
        have hlk := SeenM.look hM6 x1 hx1
        have hwb : w.heap.size ≤ w2.heap.size := b2.size
        cases hcs : seen.contains x1 with
        | true =>
          rw [hcs] at hlk
          have hbk : badK l k = 9 := by rw [HBK.out, hcs]; rfl
          have HE := hid (show negoP l = (9, (k : Int)) by rw [HAT.out (by rw [hbk]; omega) HGO.out, hbk])
          clear hbk HBK HGA HAT HGO HSE hcs
          go_wp2
          refine bodyPost_ret (v := .tuple #[.pointer none, .agg #[.int .i64 9, .int .i64 (k : Nat)]]) (by simp [results, Tryz.results5, go_sem, q0, q1]) rfl ?_
          refine ⟨⟨none, by rw [HE.out]; rfl, fun _ => rfl, fun h0 => absurd (by rw [HE.out] at h0; exact h0) (by omega)⟩, (b6.setCell (p := ⟨w.heap.size, 0, none⟩) (Nat.le_refl _) _).setCell (p := ⟨w.heap.size, 1, none⟩) (Nat.le_refl _) _⟩
        | false =>
          rw [hcs] at hlk
          have hbk : badK l k = fitsP x1 x2 := by rw [HBK.out, hcs]; rfl
          obtain ⟨W7, hput, hM7, hg7⟩ := SeenM.put hM6 (by omega) x1 hx1
          have b7 := b6.grown hg7 b6.size (fun j hj => by cases hj; exact hwb)
          have hne1 : wr.heap.size ≠ w2.heap.size := by omega
          have hs6 : wr.heap.size < W6.heap.size := by rw [← hW6]; simp
          have hblk7 : ∀ g, g < W6.heap.size → g ≠ w2.heap.size → W7.heap[g]? = W6.heap[g]? := fun g hg hne => hg7.block g hg (by simpa using fun e => hne e)
          have cell7 : ∀ g o, g < W6.heap.size → g ≠ w2.heap.size → W7.cell? ⟨g, o, none⟩ = W6.cell? ⟨g, o, none⟩ := fun g o hg hne => by unfold World.cell?; rw [hblk7 g hg hne]
          have p0 := (cell7 wr.heap.size 0 hs6 hne1).trans p0
          have p1 := (cell7 wr.heap.size 1 hs6 hne1).trans p1
          have hlw := hF6.lt
          have hF7 : ResF w.heap.size W7 := (hblk7 w.heap.size hlw (by have := F3.lt; omega)).trans hF6
          have ck2 := ck1 _ b7
          rw [hbk] at HGA HAT
          clear hbk HBK ck1 hcs cell7 hblk7 q0 q1 q2 q3
          generalize fitsP x1 x2 = F at *
          go_wp2_with fail
          refine ck2.out.mono ?_
          rintro e w8 ⟨rfl, hb8⟩
          have b8 := b7.trans (hb8.mono b7.size)
          have hF8 := hF7.below hb8
          have q0 := hF8.c0
          have q1 := hF8.c1
          have q2 := hF8.f0
          have q3 := hF8.f1
          by_cases hFz : F = 0
          · have hfi : ((F : Int) != 0) = false := by simp [hFz]
            have HS2 := hid (HGA.out hFz)
            have hM8 := MapAs.below hM7 hb8
            clear HGA HAT HGO hFz
            go_wp2
            refine ⟨⟨k + 1, x1 :: seen, by omega, by go_num, hid HSE.out, hid HS2.out, hM8, hF8, b8, ?_⟩, by simp [intOf]; omega⟩
            have h1 := hb8.size
            have h2 := hg7.size
            omega
          · have hfi : ((F : Int) != 0) = true := by simp; omega
            have HE := hid (show negoP l = (F, (k : Int)) from HAT.out hFz HGO.out)
            clear HGA HAT HGO
            go_wp2
            refine bodyPost_ret (v := .tuple #[.pointer none, .agg #[.int .i64 (F : Nat), .int .i64 (k : Nat)]]) (by simp [results, Tryz.results5, go_sem, q0, q1]) rfl ?_
            refine ⟨⟨none, by rw [HE.out]; rfl, fun _ => rfl, fun h0 => absurd (by rw [HE.out] at h0; exact h0) hFz⟩, (b8.setCell (p := ⟨w.heap.size, 0, none⟩) (Nat.le_refl _) _).setCell (p := ⟨w.heap.size, 1, none⟩) (Nat.le_refl _) _⟩
      · obtain rfl : k = l.length := by omega
        have HE := hid (HGD.out HA.out)
        have cg := fun w1 => hid (good_any w1)
        have hbN := hb.alloc hB (.cells #[.slice sa l.length sc, .slice none 0 0] 89)
        have hFN := hF.below ((Below.refl wr.heap.size wr).alloc (Nat.le_refl _) (.cells #[.slice sa l.length sc, .slice none 0 0] 89))
        clear q0 q1 q2 q3
        go_wp2_with fail
        refine (cg _).out.mono ?_
        rintro e w9 ⟨rfl, hb9⟩
        have b9 := hbN.trans (hb9.mono hbN.size)
        have hF9 := hFN.below hb9
        have q0 := hF9.c0
        have q1 := hF9.c1
        have q2 := hF9.f0
        have q3 := hF9.f1
        have hN9 := (hb9.block wr.heap.size (by simp)).trans (heap_alloc_new wr (.cells #[.slice sa l.length sc, .slice none 0 0] 89))
        go_wp2
        refine bodyPost_ret (v := .tuple #[.pointer (some ⟨wr.heap.size, 0, none⟩), .agg #[.int .i64 0, .int .i64 (-1)]]) (by simp [results, Tryz.results5, go_sem, q0, q1]) rfl ?_
        have hlw := hF.lt
        refine ⟨⟨some ⟨wr.heap.size, 0, none⟩, by rw [HE.out]; rfl, fun h0 => absurd (by rw [HE.out]) h0, fun _ => ⟨wr.heap.size, rfl, hb.size, ?_⟩⟩, (b9.setCell (p := ⟨w.heap.size, 0, none⟩) (Nat.le_refl _) _).setCell (p := ⟨w.heap.size, 1, none⟩) (Nat.le_refl _) _⟩
        rw [heap_setCell_other _ _ _ _ (by show wr.heap.size ≠ w.heap.size; omega), heap_setCell_other _ _ _ _ (by show wr.heap.size ≠ w.heap.size; omega)]
        exact hN9
  · have HE := hid (negoP_pairs l hp0)
    rw [decide_eq_false hp0]
    have q0 := F3.c0
    have q1 := F3.c1
    have q2 := F3.f0
    have q3 := F3.f1
    go_wp2
    go_still_tail 2, (by kernel_rfl)
    change wpList _ _ _ _ _ w2.drew
    go_wp2
    refine bodyPost_ret (v := .tuple #[.pointer none, .agg #[.int .i64 ((pairsR l).1 : Nat), .int .i64 (pairsR l).2]]) (by simp [results, Tryz.results5, go_sem, q0, q1]) rfl ?_
    refine ⟨⟨none, by rw [HE.out]; rfl, fun _ => rfl, fun h0 => absurd (by rw [HE.out] at h0; exact h0) hp0⟩, (b2.drew.setCell (p := ⟨w.heap.size, 0, none⟩) (Nat.le_refl _) _).setCell (p := ⟨w.heap.size, 1, none⟩) (Nat.le_refl _) _⟩
end
end Go.Proofs.YtbimlijhgeajjaaGreatDoor
