/- What may be a pair's key: the document's word. -/
import Derived.Test.YtbbnnhaboegedaaDoorPairIn
import Derived.Test.YtbbnnhaboegedaaDoorShelfB
namespace Go.Proofs.YtbbnnhaboegedaaDoor
open Go.RowKit
set_option linter.unusedVariables false
set_option maxRecDepth 100000
def upL : List UInt8 := [65, 66, 67, 68, 69, 70, 71, 72, 73, 74, 75, 76, 77, 78, 79, 80, 81, 82, 83, 84, 85, 86, 87, 88, 89, 90]
def lowL : List UInt8 := [97, 98, 99, 100, 101, 102, 103, 104, 105, 106, 107, 108, 109, 110, 111, 112, 113, 114, 115, 116, 117, 118, 119, 120, 121, 122]
def restL : List UInt8 := [48, 49, 50, 51, 52, 53, 54, 55, 56, 57, 46, 45, 43, 64, 95]
theorem low_any (w : World) : Calls Tryd.prog 46 #[.string (bs upL)] w fun e w' => e = .returned (.string (bs lowL)) ∧ Below w.heap.size w w' := by
  refine (Tryd.strings_ToLower_ascii (bs upL) w (by rw [bs_size]; decide) ?_).mono ?_
  · have h : ∀ b ∈ upL, b.toNat < 128 := by decide
    intro j b hb
    exact h b (List.mem_of_getElem? hb)
  · rintro e w' ⟨rfl, hb⟩
    exact ⟨rfl, hb⟩
theorem up_idx : ∀ n, n < 256 → decide (Lib.indexByte upL (UInt8.ofNat n) < 0) = !great (UInt8.ofNat n) := by decide +kernel
theorem all_idx : ∀ n, n < 256 → decide (Lib.indexByte (upL ++ (lowL ++ restL)) (UInt8.ofNat n) < 0) = !(great (UInt8.ofNat n) || more (UInt8.ofNat n)) := by decide +kernel
theorem up_idx' (c : UInt8) : decide (Lib.indexByte upL c < 0) = !great c := by
  have := up_idx c.toNat c.toNat_lt; rwa [UInt8.ofNat_toNat] at this
theorem all_idx' (c : UInt8) : decide (Lib.indexByte (upL ++ (lowL ++ restL)) c < 0) = !(great c || more c) := by
  have := all_idx c.toNat c.toNat_lt; rwa [UInt8.ofNat_toNat] at this
def RRKey (l : List UInt8) (w w1 : World) (i : Value) (wr : World) : Prop :=
  ∃ k : Nat, k ≤ l.length ∧ i = .int .i64 k ∧ keyFrom 0 l = keyFrom k (l.drop k) ∧ Below w1.heap.size w1 wr
set_option maxHeartbeats 4000000 in
theorem rkey_any (l : List UInt8) (w : World) (hl : l.length ≤ 9223372036854775807) :
    Calls Tryd.prog 19 #[.string (bs l)] w fun e w' => e = .returned (.bool (isKey l)) ∧ Below w.heap.size w w' := by
  have cv := fun w => conv_sb (P := Tryd.prog) 9 77 5 Tryd.underlying9 Tryd.underlying77 Tryd.underlying5 (bs l) w
  obtain ⟨cp, w1, hrun, hcp, hcell, hb1, hsz1, _⟩ := cv w
  rw [bs_size] at hrun
  clear cv
  have hcell' : ∀ j (h : j < l.length), w1.cell? ⟨w.heap.size, j, none⟩ = some (.int .u8 (l[j].toNat : Nat)) := fun j h => (hcell j (by rw [bs_size]; exact h)).trans rfl
  have Hcell := hid hcell'; clear hcell hcell'
  have hu : (⟨#[65, 66, 67, 68, 69, 70, 71, 72, 73, 74, 75, 76, 77, 78, 79, 80, 81, 82, 83, 84, 85, 86, 87, 88, 89, 90]⟩ : ByteArray) = bs upL := rfl
  have hr : (⟨#[48, 49, 50, 51, 52, 53, 54, 55, 56, 57, 46, 45, 43, 64, 95]⟩ : ByteArray) = bs restL := rfl
  have c3 := fun w => hid (low_any w)
  have ui := fun c => hid (up_idx' c)
  have ai := fun c => hid (all_idx' c)
  have hulen : upL.length ≤ 100 := by decide
  have hallen : (upL ++ (lowL ++ restL)).length ≤ 100 := by decide
  have hn1 : ¬ 9223372036854775807 < lowL.length + restL.length := by decide
  have hn2 : ¬ 9223372036854775807 < upL.length + (lowL.length + restL.length) := by decide
  generalize upL = U at *
  generalize lowL = W at *
  generalize restL = R at *
  go_enter Tryd.func19, Tryd.ntmps19
  go_wp2
  go_loopw [9] (fun i wr => RRKey l w w1 i wr) (fun i _ => l.length - (intOf i).toNat)
  case atStart => exact ⟨0, by omega, rfl, rfl, Below.refl _ _⟩
  case round =>
    obtain ⟨k, hk, rfl, hall, hb⟩ := hrel
    by_cases hlt : k < l.length
    · have hx : l[k].toNat < 256 := l[k].toNat_lt
      have hc := (hb.cell (p := ⟨w.heap.size, k, none⟩) (by simp; omega)).trans (Hcell.out k hlt)
      rw [List.drop_eq_getElem_cons hlt, keyFrom] at hall
      by_cases h0 : k = 0
      · have hk0 : kOk k l[k] = great l[k] := by rw [kOk]; simp [h0]
        rw [hk0] at hall
        have Hall := hid hall; clear hall hk0
        subst h0
        have c1 := fun w => hid (sIndexByte_any U l[0] w (by omega))
        have hui := (ui l[0]).out
        generalize Lib.indexByte U l[0] = ib at *
        cases hg : great l[0] with
        | true =>
          rw [hg] at Hall hui
          have hib : ¬ ib < 0 := of_decide_eq_false hui
          clear hui hg
          go_wp2_with (go_at_call 45; refine (c1 _).out.mono ?_; rintro e w1 ⟨rfl, rfl⟩)
          go_roundw
          case rel => exact ⟨0 + 1, by omega, by go_num, by rw [Hall.out]; simp, hb⟩
          case measure => simp [intOf]; omega
        | false =>
          rw [hg] at Hall hui
          have hib : ib < 0 := of_decide_eq_true hui
          clear hui hg
          go_wp2_with (go_at_call 45; refine (c1 _).out.mono ?_; rintro e w1 ⟨rfl, rfl⟩)
          go_ret
          exact ⟨by rw [isKey, Hall.out]; simp, hb1.trans (hb.mono hb1.size)⟩
      · have hk0 : kOk k l[k] = (great l[k] || more l[k]) := by rw [kOk, decide_eq_true (show 0 < k by omega), Bool.true_and]
        rw [hk0] at hall
        have Hall := hid hall; clear hall hk0
        have c1 := fun w => hid (sIndexByte_any (U ++ (W ++ R)) l[k] w (by omega))
        have hui := (ai l[k]).out
        generalize Lib.indexByte (U ++ (W ++ R)) l[k] = ib at *
        have hkI : decide (0 < (k : Int)) = true := decide_eq_true (by omega)
        have hkN : 0 < k := by omega
        cases hg : (great l[k] || more l[k]) with
        | true =>
          rw [hg] at Hall hui
          have hib : ¬ ib < 0 := of_decide_eq_false hui
          clear hui hg
          go_wp2_with first
            | (go_at_call 46; refine (c3 _).out.mono ?_; rintro e w2 ⟨rfl, hb2⟩)
            | (go_at_call 45; refine (c1 _).out.mono ?_; rintro e w3 ⟨rfl, rfl⟩)
          go_roundw
          case rel => exact ⟨k + 1, by omega, by go_num, by rw [Hall.out]; simp, hb.trans (hb2.mono hb.size)⟩
          case measure => simp [intOf]; omega
        | false =>
          rw [hg] at Hall hui
          have hib : ib < 0 := of_decide_eq_true hui
          clear hui hg
          go_wp2_with first
            | (go_at_call 46; refine (c3 _).out.mono ?_; rintro e w2 ⟨rfl, hb2⟩)
            | (go_at_call 45; refine (c1 _).out.mono ?_; rintro e w3 ⟨rfl, rfl⟩)
          go_ret
          have hbA := hb1.trans (hb.mono hb1.size)
          exact ⟨by rw [isKey, Hall.out]; simp, hbA.trans (hb2.mono hbA.size)⟩
    · obtain rfl : k = l.length := by omega
      rw [List.drop_length] at hall
      have Hall := hid hall; clear hall
      by_cases hw : 1 ≤ l.length ∧ l.length ≤ 63
      · have c5 := fun w => hid (within_true (l.length : Nat) 1 63 w (by omega) (by omega))
        go_wp2_with (go_at_call 47; refine (c5 _).out.mono ?_; rintro e w2 ⟨rfl, rfl⟩)
        go_ret
        refine ⟨?_, hb1.trans (hb.mono hb1.size)⟩
        rw [isKey, Hall.out, keyFrom, decide_eq_true hw.1, decide_eq_true hw.2]; rfl
      · have c5 := fun w => hid (within_false (l.length : Nat) 1 63 w (by omega))
        go_wp2_with (go_at_call 47; refine (c5 _).out.mono ?_; rintro e w2 ⟨rfl, rfl⟩)
        go_ret
        refine ⟨?_, hb1.trans (hb.mono hb1.size)⟩
        rw [isKey, Hall.out, keyFrom]
        have : (true && decide (1 ≤ l.length) && decide (l.length ≤ 63)) = false := by simp; omega
        rw [this]; rfl
end Go.Proofs.YtbbnnhaboegedaaDoor
