/- Bytes in fours: Pad, Padded, Unpad of the program and of the document answer alike. -/
import Derived.Test.YtfeenkofnbefaaaGreatDoorProg
import Derived.Test.YtfeenkofnbefaaaGreatDoorBase
import Derived.Deep.QuietTactic
import Derived.BigQuiet
import Derived.Test.YtfeenkofnbefaaaGreatDoorField
import Derived.Test.YtfeenkofnbefaaaGreatDoorBlk
import Derived.Maps.AppendAt
set_option linter.unusedSectionVars false
set_option linter.unusedSimpArgs false
set_option linter.unusedVariables false
namespace Go.Proofs.YtfeenkofnbefaaaGreatDoor
open Go.RowKit
set_option linter.unusedVariables false
set_option maxRecDepth 100000
def padN (n : Nat) : Nat := (4 - n % 4) % 4
def padI (n : Int) : Int := if n < 0 then 0 else (4 - n % 4) % 4
theorem padN_lt (n : Nat) : padN n < 4 := by unfold padN; omega
theorem padI_nat (n : Nat) : padI n = padN n := by unfold padI padN; rw [if_neg (by omega)]; omega
theorem pad_any (n : Int) (w : World) (h0 : -9223372036854775808 ≤ n) (h1 : n ≤ 9223372036854775807) :
    Calls Tryz.prog 80 #[.int .i64 n] w fun e w' => e = .returned (.int .i64 (padI n)) ∧ w = w' := by
  by_cases hn : n < 0
  · go_enter Tryz.func80, Tryz.ntmps80
    go_wp2
    go_ret
    exact ⟨ret_int (by unfold padI; rw [if_pos hn]), rfl⟩
  · go_enter Tryz.func80, Tryz.ntmps80
    go_wp2
    go_ret
    refine ⟨ret_int ?_, rfl⟩
    rw [show (3 : Int) = ((3 : Nat) : Int) from rfl, i64_mask (-n) 3 2 rfl (by omega)]
    unfold padI; rw [if_neg (by omega)]; omega
theorem rpad_any (n : Int) (w : World) (h0 : -9223372036854775808 ≤ n) (h1 : n ≤ 9223372036854775807) :
    Calls Tryz.prog 75 #[.int .i64 n] w fun e w' => e = .returned (.int .i64 (padI n)) ∧ w = w' := by
  by_cases hn : n ≤ 0
  · go_enter Tryz.func75, Tryz.ntmps75
    go_wp2
    go_ret
    exact ⟨ret_int (by unfold padI; split <;> omega), rfl⟩
  · have hm := Int.tmod_eq_emod_of_nonneg (a := n) (b := 4) (by omega)
    by_cases h4 : n % 4 = 0
    · have hb : (n.tmod 4 == 0) = true := by rw [hm, h4]; rfl
      go_enter Tryz.func75, Tryz.ntmps75
      go_wp2
      go_ret
      exact ⟨ret_int (by unfold padI; split <;> omega), rfl⟩
    · have hb : (n.tmod 4 == 0) = false := by rw [hm]; simpa using h4
      have hb2 : (n % 4 == 0) = false := by simpa using h4
      go_enter Tryz.func75, Tryz.ntmps75
      go_wp2
      go_ret
      refine ⟨ret_int ?_, rfl⟩
      unfold padI; split <;> omega
theorem pad_nat (n : Nat) (w : World) (h1 : n ≤ 9223372036854775807) :
    Calls Tryz.prog 80 #[.int .i64 n] w fun e w' => e = .returned (.int .i64 (padN n : Nat)) ∧ w = w' := by
  have := pad_any n w (by omega) (by omega)
  rwa [padI_nat] at this
def padded (l : List UInt8) : List UInt8 := l ++ List.replicate (padN l.length) 0
theorem padded_any (l : List UInt8) (w : World) (h1 : l.length ≤ 1000000) :
    Calls Tryz.prog 117 #[.string (bs l)] w fun e w' => e = .returned (.string (bs (padded l))) ∧ w = w' := by
  have hp := padN_lt l.length
  have c1 := fun w => hid (pad_nat l.length w (by omega))
  have c0 : (⟨#[0, 0, 0]⟩ : ByteArray).extract 0 (padN l.length) = bs (List.replicate (padN l.length) 0) := by
    rw [show (⟨#[0, 0, 0]⟩ : ByteArray) = bs [0, 0, 0] from rfl, bs_extract]
    generalize padN l.length = p at *
    match p, hp with
    | 0, _ => rfl
    | 1, _ => rfl
    | 2, _ => rfl
    | 3, _ => rfl
  have e : padded l = l ++ List.replicate (padN l.length) 0 := rfl
  rw [e]
  clear e
  generalize padN l.length = p at *
  go_enter Tryz.func117, Tryz.ntmps117
  go_wp2_with (go_at_call 80; refine (c1 _).out.mono ?_; rintro e w1 ⟨rfl, rfl⟩)
  go_ret
  exact ⟨rfl, rfl⟩
/-- what is wrong with a text of n bytes ahead of its Pad: 0 nothing, 2 n below 0, 7 fewer bytes, 3 a byte of the Pad -/
def unpadE (l : List UInt8) (n : Int) : Nat :=
  if n < 0 then 2 else if (l.length : Int) < n ∨ (l.length : Int) < n + padI n then 7 else if (l.drop n.toNat).take (padN n.toNat) = List.replicate (padN n.toNat) 0 then 0 else 3
theorem padded_take (l : List UInt8) (n : Nat) (h : n + padN n ≤ l.length) : padded (l.take n) = l.take (n + padN n) ↔ (l.drop n).take (padN n) = List.replicate (padN n) 0 := by
  have hl : (l.take n).length = n := by simp; omega
  unfold padded
  rw [hl, List.take_add]
  constructor
  · intro h; exact (List.append_cancel_left h).symm
  · intro h; rw [h]
theorem unpadE_neg (l : List UInt8) (n : Int) (h : n < 0) : unpadE l n = 2 := by unfold unpadE; rw [if_pos h]
theorem unpadE_few (l : List UInt8) (k : Nat) (h : l.length < k + padN k) : unpadE l k = 7 := by
  unfold unpadE; rw [if_neg (by omega), if_pos (by rw [padI_nat]; omega)]
theorem unpadE_ok (l : List UInt8) (k : Nat) (h : k + padN k ≤ l.length) (hz : (l.drop k).take (padN k) = List.replicate (padN k) 0) : unpadE l k = 0 := by
  unfold unpadE; rw [if_neg (by omega), if_neg (by rw [padI_nat]; omega), if_pos (by simpa using hz)]
theorem unpadE_bad (l : List UInt8) (k : Nat) (h : k + padN k ≤ l.length) (hz : ¬ (l.drop k).take (padN k) = List.replicate (padN k) 0) : unpadE l k = 3 := by
  unfold unpadE; rw [if_neg (by omega), if_neg (by rw [padI_nat]; omega), if_neg (by simpa using hz)]
def unpadV (l : List UInt8) (n : Int) : Value := .tuple (if unpadE l n = 0 then #[.string (bs (l.take n.toNat)), .int .i64 (n + padI n), .nilIface] else #[.string (bs []), .int .i64 0, .iface 31 (.int .i64 (unpadE l n : Nat))])
theorem unpad_any (l : List UInt8) (n : Int) (w : World) (h1 : l.length ≤ 1000000) (h2 : -9223372036854775808 ≤ n) (h3 : n ≤ 9223372036854775807) :
    Calls Tryz.prog 84 #[.string (bs l), .int .i64 n] w fun e w' => e = .returned (unpadV l n) ∧ ∃ q, w' = w.drewN q := by
  by_cases hn : n < 0
  · rw [unpadV, unpadE_neg l n hn, if_neg (by omega)]
    go_enter Tryz.func84, Tryz.ntmps84
    go_wp2
    go_ret3
    exact ⟨rfl, 0, rfl⟩
  · obtain ⟨k, rfl⟩ := Int.eq_ofNat_of_zero_le (show 0 ≤ n by omega)
    by_cases hk : l.length < k
    · rw [unpadV, unpadE_few l k (by omega), if_neg (by omega)]
      go_enter Tryz.func84, Tryz.ntmps84
      go_wp2
      go_ret3
      exact ⟨rfl, 0, rfl⟩
    · have c1 := fun w => hid (pad_nat k w (by omega))
      have hp := padN_lt k
      by_cases hk2 : l.length < k + padN k
      · rw [unpadV, unpadE_few l k hk2, if_neg (by omega)]
        generalize padN k = p at *
        go_enter Tryz.func84, Tryz.ntmps84
        go_wp2_with (go_at_call 80; refine (c1 _).out.mono ?_; rintro e w1 ⟨rfl, rfl⟩)
        go_ret3
        exact ⟨rfl, 0, rfl⟩
      · have c2 := fun w => hid ((padded_any (l.take k) w (by simp; omega)).mono fun _ _ ⟨a, b⟩ => (⟨a, b.symm⟩ : _ ∧ _ = w))
        have hiff := padded_take l k (by omega)
        have hlt : (l.take (k + padN k)).length = k + padN k := by simp; omega
        by_cases hz : (l.drop k).take (padN k) = List.replicate (padN k) 0
        · rw [unpadV, unpadE_ok l k (by omega) hz, if_pos rfl, padI_nat]
          have hq := hiff.2 hz
          clear hiff hz hlt
          rw [hq] at c2
          clear hq
          generalize padN k = p at *
          have hkl : ¬ (l.length : Int) < k + p := by omega
          go_enter Tryz.func84, Tryz.ntmps84
          go_wp2_with (go_at_call 80; refine (c1 _).out.mono ?_; rintro e w1 ⟨rfl, rfl⟩)
          go_quiet ((go_at_call 117; exact Calls.quiet_of_same (c2 _).out))
          go_wp2
          go_ret3
          exact ⟨by rw [Int.toNat_natCast]; rfl, _, rfl⟩
        · rw [unpadV, unpadE_bad l k (by omega) hz, if_neg (by omega)]
          have hq : ¬ padded (l.take k) = l.take (k + padN k) := fun h => hz (hiff.1 h)
          clear hiff hz hlt
          generalize padN k = p at *
          have hkl : ¬ (l.length : Int) < k + p := by omega
          generalize padded (l.take k) = x at *
          have hxy : (x == l.take (k + p)) = false := by simpa using hq
          clear hq
          go_enter Tryz.func84, Tryz.ntmps84
          go_wp2_with (go_at_call 80; refine (c1 _).out.mono ?_; rintro e w1 ⟨rfl, rfl⟩)
          go_quiet ((go_at_call 117; exact Calls.quiet_of_same (c2 _).out))
          go_wp2
          go_ret3
          exact ⟨rfl, _, rfl⟩
end Go.Proofs.YtfeenkofnbefaaaGreatDoor

namespace Go.Proofs.YtfeenkofnbefaaaGreatDoor
open Go.RowKit
set_option linter.unusedVariables false
set_option maxRecDepth 100000
/-- what is wrong with the headers that are left, from the i-th on, behind so many bytes (0: nothing), and where -/
def ahsW (I : Nat → Int × List UInt8) : Nat → Nat → Nat → Nat × Int
  | 0, _, _ => (0, -1)
  | r + 1, i, n => if (I i).1 < 0 ∨ 255 < (I i).1 then (2, i) else if 1020 < (I i).2.length ∨ 1020 < n + 3 + (I i).2.length + padN (3 + (I i).2.length) then (4, i) else ahsW I r (i + 1) (n + (3 + (I i).2.length + padN (3 + (I i).2.length)))
/-- headers as bytes -/
def ahsB (I : Nat → Int × List UInt8) : Nat → Nat → List UInt8 → List UInt8
  | 0, _, out => out
  | r + 1, i, out => ahsB I r (i + 1) (out ++ padded (be (I i).2.length 2 ++ [UInt8.ofNat (I i).1.toNat] ++ (I i).2))
/-- a slice of headers that is handed in -/
def AhsIn (w : World) (v : Value) (n : Nat) (I : Nat → Int × List UInt8) : Prop :=
  n ≤ maxLen ∧ ((v = .slice none 0 0 ∧ n = 0) ∨ ∃ a cap, v = .slice (some a) n cap) ∧
    ∀ a m cap, v = .slice (some a) m cap → ∀ k, k < n → w.cell? (a.add (k * 2)) = some (.int .i64 (I k).1) ∧ w.cell? (a.add (k * 2 + 1)) = some (.string (bs (I k).2)) ∧ -9223372036854775808 ≤ (I k).1 ∧ (I k).1 ≤ 9223372036854775807 ∧ (I k).2.length ≤ maxLen
theorem AhsIn.below {w w' : World} {v : Value} {n : Nat} {I : Nat → Int × List UInt8} (h : AhsIn w v n I) (hb : Below w.heap.size w w') : AhsIn w' v n I := by
  obtain ⟨h1, h2, h3⟩ := h
  refine ⟨h1, h2, fun a m cap e k hk => ?_⟩
  obtain ⟨c0, c1, hr⟩ := h3 a m cap e k hk
  exact ⟨(hb.cell (block_lt_of_cell c0)).trans c0, (hb.cell (block_lt_of_cell c1)).trans c1, hr⟩
def RAhsW (I : Nat → Int × List UInt8) (n : Nat) (w : World) (sum i : Value) (wr : World) : Prop :=
  ∃ k m : Nat, k ≤ n ∧ m ≤ 1020 ∧ i = .int .i64 (k : Nat) ∧ sum = .int .i64 (m : Nat) ∧ ahsW I n 0 0 = ahsW I (n - k) k m ∧ Below w.heap.size w wr
end Go.Proofs.YtfeenkofnbefaaaGreatDoor
