/- What may be a pair's key: the document's word. -/
import Derived.Test.YtfeenkofnbefaaaGreatDoorPairIn
import Derived.Test.YtfeenkofnbefaaaGreatDoorShelfL
set_option linter.unusedSectionVars false
set_option linter.unusedSimpArgs false
set_option linter.unusedVariables false
namespace Go.Proofs.YtfeenkofnbefaaaGreatDoor
open Go.RowKit
set_option linter.unusedVariables false
set_option maxRecDepth 100000
def upL : List UInt8 := [65, 66, 67, 68, 69, 70, 71, 72, 73, 74, 75, 76, 77, 78, 79, 80, 81, 82, 83, 84, 85, 86, 87, 88, 89, 90]
def lowL : List UInt8 := [97, 98, 99, 100, 101, 102, 103, 104, 105, 106, 107, 108, 109, 110, 111, 112, 113, 114, 115, 116, 117, 118, 119, 120, 121, 122]
def restL : List UInt8 := [48, 49, 50, 51, 52, 53, 54, 55, 56, 57, 46, 45, 43, 64, 95]
theorem low_any (w : World) : Calls Tryz.prog 123 #[.string (bs upL)] w fun e w' => e = .returned (.string (bs lowL)) ∧ Below w.heap.size w w' := by
  refine (Tryz.strings_ToLower_ascii (bs upL) w (by rw [bs_size]; decide) ?_).mono ?_
  · have h : ∀ b ∈ upL, b.toNat < 128 := by decide
    intro j b hb
    exact h b (List.mem_of_getElem? hb)
  · rintro e w' ⟨rfl, hb⟩
    exact ⟨rfl, hb⟩
theorem up_idx : ∀ n, n < 256 → decide (Lib.indexByte upL (UInt8.ofNat n) < 0) = !great (UInt8.ofNat n) := by decide +kernel
theorem all_idx : ∀ n, n < 256 → decide (Lib.indexByte (upL ++ (lowL ++ restL)) (UInt8.ofNat n) < 0) = !(great (UInt8.ofNat n) || more (UInt8.ofNat n)) := by decide +kernel
theorem up_idx' (c : UInt8) : decide (Lib.indexByte upL c < 0) = !great c := by
  have := up_idx c.toNat c.toNat_lt; rwa [UInt8.ofNat_toNat] at this
theorem all_idx' (c : UInt8) : decide (Lib.indexByte (upL ++ (lowL ++ restL)) c < 0) = !(great c || more c) := by
  have := all_idx c.toNat c.toNat_lt; rwa [UInt8.ofNat_toNat] at this
def RRKey (l : List UInt8) (w w1 : World) (i : Value) (wr : World) : Prop :=
  ∃ k : Nat, k ≤ l.length ∧ i = .int .i64 k ∧ keyFrom 0 l = keyFrom k (l.drop k) ∧ Below w1.heap.size w1 wr
set_option maxHeartbeats 4000000 in
theorem rkey_any (l : List UInt8) (w : World) (hl : l.length ≤ 9223372036854775807) :
    Calls Tryz.prog 89 #[.string (bs l)] w fun e w' => e = .returned (.bool (isKey l)) ∧ Below w.heap.size w w' := by
  have cv := fun w => conv_sb (P := Tryz.prog) 9 187 5 Tryz.underlying9 Tryz.underlying187 Tryz.underlying5 (bs l) w
  obtain ⟨cp, w1, hrun, hcp, hcell, hb1, hsz1, _⟩ := cv w
  rw [bs_size] at hrun
  clear cv
  have hcell' : ∀ j (h : j < l.length), w1.cell? ⟨w.heap.size, j, none⟩ = some (.int .u8 (l[j].toNat : Nat)) := fun j h => (hcell j (by rw [bs_size]; exact h)).trans rfl
  have Hcell := hid hcell'; clear hcell hcell'
  have hu : (⟨#[65, 66, 67, 68, 69, 70, 71, 72, 73, 74, 75, 76, 77, 78, 79, 80, 81, 82, 83, 84, 85, 86, 87, 88, 89, 90]⟩ : ByteArray) = bs upL := rfl
  have hr : (⟨#[48, 49, 50, 51, 52, 53, 54, 55, 56, 57, 46, 45, 43, 64, 95]⟩ : ByteArray) = bs restL := rfl
  have c3 := fun w => hid (low_any w)
  have ui := fun c => hid (up_idx' c)
  have ai := fun c => hid (all_idx' c)
  have hulen : upL.length ≤ 100 := by decide
  have hallen : (upL ++ (lowL ++ restL)).length ≤ 100 := by decide
  have hn1 : ¬ 9223372036854775807 < lowL.length + restL.length := by decide
  have hn2 : ¬ 9223372036854775807 < upL.length + (lowL.length + restL.length) := by decide
  generalize upL = U at *
  generalize lowL = W at *
  generalize restL = R at *
  go_enter Tryz.func89, Tryz.ntmps89
  go_wp2
  go_loopw [9] (fun i wr => RRKey l w w1 i wr) (fun i _ => l.length - (intOf i).toNat)
  case atStart => exact ⟨0, by omega, rfl, rfl, Below.refl _ _⟩
  case round =>
    obtain ⟨k, hk, rfl, hall, hb⟩ := hrel
    by_cases hlt : k < l.length
    · have hx : l[k].toNat < 256 := l[k].toNat_lt
      have hc := (hb.cell (p := ⟨w.heap.size, k, none⟩) (by simp; omega)).trans (Hcell.out k hlt)
      rw [List.drop_eq_getElem_cons hlt, keyFrom] at hall
      by_cases h0 : k = 0
      · have hk0 : kOk k l[k] = great l[k] := by rw [kOk]; simp [h0]
        rw [hk0] at hall
        have Hall := hid hall; clear hall hk0
        subst h0
        have c1 := fun w => hid (sIndexByte_any U l[0] w (by omega))
        have hui := (ui l[0]).out
        generalize Lib.indexByte U l[0] = ib at *
        cases hg : great l[0] with
        | true =>
          rw [hg] at Hall hui
          have hib : ¬ ib < 0 := of_decide_eq_false hui
          clear hui hg
          go_wp2_with (go_at_call 124; refine (c1 _).out.mono ?_; rintro e w1 ⟨rfl, rfl⟩)
          go_roundw
          case rel => exact ⟨0 + 1, by omega, by go_num, by rw [Hall.out]; simp, hb⟩
          case measure => simp [intOf]; omega
        | false =>
          rw [hg] at Hall hui
          have hib : ib < 0 := of_decide_eq_true hui
          clear hui hg
          go_wp2_with (go_at_call 124; refine (c1 _).out.mono ?_; rintro e w1 ⟨rfl, rfl⟩)
          go_ret
          exact ⟨by rw [isKey, Hall.out]; simp, hb1.trans (hb.mono hb1.size)⟩
      · have hk0 : kOk k l[k] = (great l[k] || more l[k]) := by rw [kOk, decide_eq_true (show 0 < k by omega), Bool.true_and]
        rw [hk0] at hall
        have Hall := hid hall; clear hall hk0
        have c1 := fun w => hid (sIndexByte_any (U ++ (W ++ R)) l[k] w (by omega))
        have hui := (ai l[k]).out
        generalize Lib.indexByte (U ++ (W ++ R)) l[k] = ib at *
        have hkI : decide (0 < (k : Int)) = true := decide_eq_true (by omega)
        have hkN : 0 < k := by omega
        cases hg : (great l[k] || more l[k]) with
        | true =>
          rw [hg] at Hall hui
          have hib : ¬ ib < 0 := of_decide_eq_false hui
          clear hui hg
          go_wp2_with first
            | (go_at_call 123; refine (c3 _).out.mono ?_; rintro e w2 ⟨rfl, hb2⟩)
            | (go_at_call 124; refine (c1 _).out.mono ?_; rintro e w3 ⟨rfl, rfl⟩)
          go_roundw
          case rel => exact ⟨k + 1, by omega, by go_num, by rw [Hall.out]; simp, hb.trans (hb2.mono hb.size)⟩
          case measure => simp [intOf]; omega
        | false =>
          rw [hg] at Hall hui
          have hib : ib < 0 := of_decide_eq_true hui
          clear hui hg
          go_wp2_with first
            | (go_at_call 123; refine (c3 _).out.mono ?_; rintro e w2 ⟨rfl, hb2⟩)
            | (go_at_call 124; refine (c1 _).out.mono ?_; rintro e w3 ⟨rfl, rfl⟩)
          go_ret
          have hbA := hb1.trans (hb.mono hb1.size)
          exact ⟨by rw [isKey, Hall.out]; simp, hbA.trans (hb2.mono hbA.size)⟩
    · obtain rfl : k = l.length := by omega
      rw [List.drop_length] at hall
      have Hall := hid hall; clear hall
      by_cases hw : 1 ≤ l.length ∧ l.length ≤ 63
      · have c5 := fun w => hid (within_true (l.length : Nat) 1 63 w (by omega) (by omega))
        go_wp2_with (go_at_call 57; refine (c5 _).out.mono ?_; rintro e w2 ⟨rfl, rfl⟩)
        go_ret
        refine ⟨?_, hb1.trans (hb.mono hb1.size)⟩
        rw [isKey, Hall.out, keyFrom, decide_eq_true hw.1, decide_eq_true hw.2]; rfl
      · have c5 := fun w => hid (within_false (l.length : Nat) 1 63 w (by omega))
        go_wp2_with (go_at_call 57; refine (c5 _).out.mono ?_; rintro e w2 ⟨rfl, rfl⟩)
        go_ret
        refine ⟨?_, hb1.trans (hb.mono hb1.size)⟩
        rw [isKey, Hall.out, keyFrom]
        have : (true && decide (1 ≤ l.length) && decide (l.length ≤ 63)) = false := by simp; omega
        rw [this]; rfl
end Go.Proofs.YtfeenkofnbefaaaGreatDoor

namespace Go.Proofs.YtfeenkofnbefaaaGreatDoor
open Go.RowKit
set_option linter.unusedVariables false
set_option maxRecDepth 100000
def PRightRPost (l : PL) (w : World) (e : Ending) (w' : World) : Prop := e = .returned (faultV (pairsR l).1 (pairsR l).2) ∧ Below w.heap.size w w'
def RPRightR (l : PL) (w : World) (i : Value) (wr : World) : Prop :=
  ∃ k : Nat, k ≤ l.length ∧ i = .int .i64 (k : Nat) ∧ pairsR l = pairsRG (l.drop k) k ∧ Below w.heap.size w wr ∧ w.heap.size < wr.heap.size ∧
    wr.heap[w.heap.size]? = some (.cells #[.int .i64 0, .int .i64 0] 72 (0, 0))
set_option maxHeartbeats 4000000 in
theorem rpairsRight_any (v : Value) (l : PL) (w : World) (h : PSl w v l) (hbd : PBd l) :
    Calls Tryz.prog 58 #[v] w fun e w' => PRightRPost l w e w' := by
  obtain ⟨hn, hlen⟩ := hbd
  by_cases h60 : 60 < l.length
  · have hR : pairsR l = (4, -1) := by rw [pairsR, if_pos h60]
    have HR := hid hR; clear hR
    rcases h.open_ with ⟨rfl, _⟩ | ⟨h0, b, o, c, rfl, _, _⟩
    · simp at h60
    clear h
    have h60' : decide ((60 : Int) < (l.length : Int)) = true := decide_eq_true (by omega)
    go_enter Tryz.func58, Tryz.ntmps58
    go_wp2_with (go_at_call 55; refine (bareF_any _ _).mono ?_; rintro e w1 ⟨rfl, hb1⟩; have q0 : w1.cell? ⟨w.heap.size, 0, none⟩ = some (.int .i64 0) := (hb1.cell (p := ⟨w.heap.size, 0, none⟩) (by simp)).trans (by simp); have q1 : w1.cell? ⟨w.heap.size, 1, none⟩ = some (.int .i64 0) := (hb1.cell (p := ⟨w.heap.size, 1, none⟩) (by simp)).trans (by simp); have f0 : w1.frozen? ⟨w.heap.size, 0, none⟩ = false := (hb1.frozen (p := ⟨w.heap.size, 0, none⟩) (by simp)).trans (by simp); have f1 : w1.frozen? ⟨w.heap.size, 1, none⟩ = false := (hb1.frozen (p := ⟨w.heap.size, 1, none⟩) (by simp)).trans (by simp))
    refine bodyPost_ret (v := .agg #[.int .i64 4, .int .i64 (-1)]) (by simp [results, Tryz.results58, go_sem, q0, q1]) rfl ?_
    refine ⟨by rw [HR.out]; rfl, ?_⟩
    exact ((((Below.refl _ _).alloc (Nat.le_refl _) _).trans (hb1.mono (by simp))).setCell (Nat.le_refl _) _).setCell (Nat.le_refl _) _
  have hR : pairsR l = pairsRG l 0 := by rw [pairsR, if_neg h60]
  rcases h.open_ with ⟨rfl, a, c, rfl⟩ | ⟨h0, b, o, c, rfl, hbl, hcell⟩
  · clear h hR hlen
    go_enter Tryz.func58, Tryz.ntmps58
    go_wp2
    refine wp_loop_rounds 1 ?_
    rw [rounds_succ]
    go_wp2_with (go_at_call 60; refine (good_any _).mono ?_; rintro e w1 ⟨rfl, hb1⟩; have q0 : w1.cell? ⟨w.heap.size, 0, none⟩ = some (.int .i64 0) := (hb1.cell (p := ⟨w.heap.size, 0, none⟩) (by simp)).trans (by simp); have q1 : w1.cell? ⟨w.heap.size, 1, none⟩ = some (.int .i64 0) := (hb1.cell (p := ⟨w.heap.size, 1, none⟩) (by simp)).trans (by simp); have f0 : w1.frozen? ⟨w.heap.size, 0, none⟩ = false := (hb1.frozen (p := ⟨w.heap.size, 0, none⟩) (by simp)).trans (by simp); have f1 : w1.frozen? ⟨w.heap.size, 1, none⟩ = false := (hb1.frozen (p := ⟨w.heap.size, 1, none⟩) (by simp)).trans (by simp))
    refine bodyPost_ret (v := .agg #[.int .i64 0, .int .i64 (-1)]) (by simp [results, Tryz.results58, go_sem, q0, q1]) rfl ?_
    refine ⟨rfl, ?_⟩
    exact ((((Below.refl _ _).alloc (Nat.le_refl _) _).trans (hb1.mono (by simp))).setCell (Nat.le_refl _) _).setCell (Nat.le_refl _) _
  clear h
  have Hcell := hid hcell; clear hcell
  have HR := hid hR; clear hR
  have Hlen := hid hlen; clear hlen
  have h60' : decide ((60 : Int) < (l.length : Int)) = false := decide_eq_false (by omega)
  go_enter Tryz.func58, Tryz.ntmps58
  go_wp2
  go_loopw [10] (fun i wr => RPRightR l w i wr) (fun i _ => l.length - (intOf i).toNat)
  case atStart => exact ⟨0, by omega, rfl, by rw [HR.out]; rfl, (Below.refl _ _).alloc (Nat.le_refl _) _, by simp, heap_alloc_new _ _⟩
  case round =>
    obtain ⟨k, hk, rfl, heq, hb, hsz, hblk⟩ := hrel
    have hB := hb.size
    have q0 : wr.cell? ⟨w.heap.size, 0, none⟩ = some (.int .i64 0) := by rw [cell_of_row _ _ _ _ _ _ hblk]; rfl
    have q1 : wr.cell? ⟨w.heap.size, 1, none⟩ = some (.int .i64 0) := by rw [cell_of_row _ _ _ _ _ _ hblk]; rfl
    have f0 : wr.frozen? ⟨w.heap.size, 0, none⟩ = false := frozen_of_row _ _ _ _ _ hblk
    have f1 : wr.frozen? ⟨w.heap.size, 1, none⟩ = false := frozen_of_row _ _ _ _ _ hblk
    by_cases hlt : k < l.length
    · obtain ⟨c0, c1⟩ := Hcell.out k hlt
      have g0 := (hb.cell (p := ⟨b, o + k * 2, none⟩) hbl).trans c0
      have g1 := (hb.cell (p := ⟨b, o + k * 2 + 1, none⟩) hbl).trans c1
      obtain ⟨hd0, hd1⟩ := Hlen.out k
      rw [pairsRG_drop l k hlt] at heq
      clear c0 c1
      generalize l.getD k ([], []) = x at *
      obtain ⟨x1, x2⟩ := x
      simp only at *
      have c1 := fun w => hid (rkey_any x1 w hd0)
      have c2 := fun w => hid (rvalue_any x2 w hd1)
      have Hblk := hid hblk; clear hblk
      have hbw : b < wr.heap.size := Nat.lt_of_lt_of_le hbl hB
      cases hk1 : isKey x1 with
      | false =>
        rw [hk1] at c1
        rw [hk1, if_pos rfl] at heq
        have Heq := hid heq; clear heq hk1
        go_wp2_with (go_at_call 89; refine (c1 _).out.mono ?_; rintro e w1 ⟨rfl, hb1⟩; have q0 := (hb1.cell (p := ⟨w.heap.size, 0, none⟩) hsz).trans q0; have q1 := (hb1.cell (p := ⟨w.heap.size, 1, none⟩) hsz).trans q1; have f0 := (hb1.frozen (p := ⟨w.heap.size, 0, none⟩) hsz).trans f0; have f1 := (hb1.frozen (p := ⟨w.heap.size, 1, none⟩) hsz).trans f1)
        refine bodyPost_ret (v := .agg #[.int .i64 5, .int .i64 (k : Nat)]) (by simp [results, Tryz.results58, go_sem, q0, q1]) rfl ?_
        refine ⟨by rw [Heq.out]; rfl, ((hb.trans (hb1.mono hB)).setCell (Nat.le_refl _) _).setCell (Nat.le_refl _) _⟩
      | true =>
        rw [hk1] at c1
        rw [hk1, if_neg (by simp)] at heq
        cases hv2 : isValue x2 with
        | false =>
          rw [hv2] at c2
          rw [hv2, if_pos rfl] at heq
          have Heq := hid heq; clear heq hk1 hv2
          go_wp2_with (go_at_call 89; refine (c1 _).out.mono ?_; rintro e w1 ⟨rfl, hb1⟩; have q0 := (hb1.cell (p := ⟨w.heap.size, 0, none⟩) hsz).trans q0; have q1 := (hb1.cell (p := ⟨w.heap.size, 1, none⟩) hsz).trans q1; have f0 := (hb1.frozen (p := ⟨w.heap.size, 0, none⟩) hsz).trans f0; have f1 := (hb1.frozen (p := ⟨w.heap.size, 1, none⟩) hsz).trans f1; have g1 := (hb1.cell (p := ⟨b, o + k * 2 + 1, none⟩) hbw).trans g1; have hsz := Nat.lt_of_lt_of_le hsz hb1.size; clear c1)
          go_wp2_with (go_at_call 88; refine (c2 _).out.mono ?_; rintro e w2 ⟨rfl, hb2⟩; have q0 := (hb2.cell (p := ⟨w.heap.size, 0, none⟩) hsz).trans q0; have q1 := (hb2.cell (p := ⟨w.heap.size, 1, none⟩) hsz).trans q1; have f0 := (hb2.frozen (p := ⟨w.heap.size, 0, none⟩) hsz).trans f0; have f1 := (hb2.frozen (p := ⟨w.heap.size, 1, none⟩) hsz).trans f1)
          refine bodyPost_ret (v := .agg #[.int .i64 3, .int .i64 (k : Nat)]) (by simp [results, Tryz.results58, go_sem, q0, q1]) rfl ?_
          have hbB := hb.trans (hb1.mono hB)
          refine ⟨by rw [Heq.out]; rfl, ((hbB.trans (hb2.mono hbB.size)).setCell (Nat.le_refl _) _).setCell (Nat.le_refl _) _⟩
        | true =>
          rw [hv2] at c2
          rw [hv2, if_neg (by simp)] at heq
          have Heq := hid heq; clear heq hk1 hv2
          go_wp2_with (go_at_call 89; refine (c1 _).out.mono ?_; rintro e w1 ⟨rfl, hb1⟩; have g1 := (hb1.cell (p := ⟨b, o + k * 2 + 1, none⟩) hbw).trans g1; clear c1)
          go_wp2_with (go_at_call 88; refine (c2 _).out.mono ?_; rintro e w2 ⟨rfl, hb2⟩)
          have hbB := hb.trans (hb1.mono hB)
          have hbC := hbB.trans (hb2.mono hbB.size)
          go_roundw
          case rel => exact ⟨k + 1, by omega, by go_num, Heq.out, hbC, Nat.lt_of_lt_of_le hsz (Nat.le_trans hb1.size hb2.size), (hb2.block _ (Nat.lt_of_lt_of_le hsz hb1.size)).trans ((hb1.block _ hsz).trans Hblk.out)⟩
          case measure => simp [intOf]; omega
    · obtain rfl : k = l.length := by omega
      have Heq := hid heq; clear heq
      have Hblk := hid hblk; clear hblk
      go_wp2_with (go_at_call 60; refine (good_any _).mono ?_; rintro e w1 ⟨rfl, hb1⟩; have q0 := (hb1.cell (p := ⟨w.heap.size, 0, none⟩) hsz).trans q0; have q1 := (hb1.cell (p := ⟨w.heap.size, 1, none⟩) hsz).trans q1; have f0 := (hb1.frozen (p := ⟨w.heap.size, 0, none⟩) hsz).trans f0; have f1 := (hb1.frozen (p := ⟨w.heap.size, 1, none⟩) hsz).trans f1)
      refine bodyPost_ret (v := .agg #[.int .i64 0, .int .i64 (-1)]) (by simp [results, Tryz.results58, go_sem, q0, q1]) rfl ?_
      refine ⟨by rw [Heq.out, List.drop_length]; rfl, ((hb.trans (hb1.mono hB)).setCell (Nat.le_refl _) _).setCell (Nat.le_refl _) _⟩
end Go.Proofs.YtfeenkofnbefaaaGreatDoor

namespace Go.Proofs.YtfeenkofnbefaaaGreatDoor
open Go.RowKit
set_option linter.unusedVariables false
set_option maxRecDepth 100000
theorem faultIs_any (k : Nat) (pl : Int) (w : World) :
    Calls Tryz.prog 29 #[faultV k pl] w fun e w' => e = .returned (.bool (decide (k = 0))) ∧ Below w.heap.size w w' := by
  unfold faultV
  by_cases hk : k = 0
  · subst hk
    go_enter Tryz.func29, Tryz.ntmps29
    go_wp2
    go_ret
    exact ⟨rfl, (Below.refl _ _).alloc (Nat.le_refl _) _⟩
  · have hb : ((k : Int) == 0) = false := by rw [beq_eq_false_iff_ne]; omega
    rw [decide_eq_false hk]
    clear hk
    go_enter Tryz.func29, Tryz.ntmps29
    go_wp2
    go_ret
    exact ⟨rfl, (Below.refl _ _).alloc (Nat.le_refl _) _⟩
end Go.Proofs.YtfeenkofnbefaaaGreatDoor
