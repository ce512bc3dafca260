/- The document's within, by contract. -/
import Derived.Test.YtmdnkmeekfkkhaaGreatDoorProg
import Derived.Test.YtmdnkmeekfkkhaaGreatDoorBase
import Derived.Test.YtmdnkmeekfkkhaaGreatDoorNumber
namespace Go.Proofs.YtmdnkmeekfkkhaaGreatDoor
open Go.RowKit
set_option linter.unusedVariables false
theorem within_true (n lo hi : Int) (w : World) (h0 : lo ≤ n) (h1 : n ≤ hi) :
    Calls Tryz.prog 48 #[.int .i64 n, .int .i64 lo, .int .i64 hi] w fun e w' => e = .returned (.bool true) ∧ w = w' := by
  have b1 : decide (lo ≤ n) = true := by simpa using h0
  have b2 : decide (n ≤ hi) = true := by simpa using h1
  clear h0 h1
  go_enter Tryz.func48, Tryz.ntmps48
  go_wp2
  go_ret
  exact ⟨rfl, rfl⟩
theorem within_false (n lo hi : Int) (w : World) (h0 : n < lo ∨ hi < n) :
    Calls Tryz.prog 48 #[.int .i64 n, .int .i64 lo, .int .i64 hi] w fun e w' => e = .returned (.bool false) ∧ w = w' := by
  by_cases h : n < lo
  · have b1 : decide (lo ≤ n) = false := by simpa using h
    clear h0 h
    go_enter Tryz.func48, Tryz.ntmps48
    go_wp2
    go_ret
    exact ⟨rfl, rfl⟩
  · have b1 : decide (lo ≤ n) = true := by simp; omega
    have b2 : decide (n ≤ hi) = false := by simp; omega
    clear h0 h
    go_enter Tryz.func48, Tryz.ntmps48
    go_wp2
    go_ret
    exact ⟨rfl, rfl⟩
end Go.Proofs.YtmdnkmeekfkkhaaGreatDoor

namespace Go.Proofs.YtmdnkmeekfkkhaaGreatDoor
open Go Go.RowKit
set_option linter.unusedVariables false
set_option linter.unusedSectionVars false
set_option linter.unusedSimpArgs false
set_option maxRecDepth 100000
section
variable (l : List UInt8) (low high : Int) (w : World) (hl : l.length ≤ 1000000) (h0 : -9223372036854775808 ≤ low) (h1 : low ≤ 9223372036854775807) (g0 : -9223372036854775808 ≤ high) (g1 : high ≤ 9223372036854775807)
include hl h0 h1 g0 g1
theorem knumeral_any (hev : EV w) : Calls Tryz.prog 16 #[.string (bs l), .int .i64 low, .int .i64 high] w fun e w' => e = .returned (.tuple #[.int .i64 (numeP l low high).1, errV 22 (numeP l low high).2]) ∧ Below w.heap.size w w' := by
  have c := hid (knumber_any l w hl hev)
  unfold NumPost at c
  clear hev
  cases hn : numL l with
  | none =>
    have hp : numeP l low high = (0, 3) := by unfold numeP; rw [hn]
    rw [hp]
    rw [hn] at c
    clear hp hn
    go_enter Tryz.func16, Tryz.ntmps16
    go_wp2_with fail
    refine c.out.mono ?_
    rintro e w1 ⟨n, rfl, _, hb⟩
    go_wp2
    go_ret2
    exact ⟨rfl, hb⟩
  | some x =>
    have hle := numL_le l x hn
    rw [hn] at c
    by_cases hr : (x : Int) < low ∨ high < (x : Int)
    · have hp : numeP l low high = (0, 2) := by unfold numeP; rw [hn]; exact if_pos hr
      rw [hp]
      clear hp hn
      by_cases hr1 : (x : Int) < low
      · go_enter Tryz.func16, Tryz.ntmps16
        go_wp2_with fail
        refine c.out.mono ?_
        rintro e w1 ⟨n, rfl, hnx, hb⟩
        obtain rfl := hnx x rfl
        clear hr hnx
        go_wp2
        go_ret2
        exact ⟨rfl, hb⟩
      · have hr2 : high < (x : Int) := by rcases hr with h | h <;> omega
        go_enter Tryz.func16, Tryz.ntmps16
        go_wp2_with fail
        refine c.out.mono ?_
        rintro e w1 ⟨n, rfl, hnx, hb⟩
        obtain rfl := hnx x rfl
        clear hr hnx
        go_wp2
        go_ret2
        exact ⟨rfl, hb⟩
    · have hp : numeP l low high = ((x : Int), 0) := by unfold numeP; rw [hn]; exact if_neg hr
      rw [hp]
      have hr1 : low ≤ (x : Int) := by omega
      have hr2 : (x : Int) ≤ high := by omega
      clear hp hn
      go_enter Tryz.func16, Tryz.ntmps16
      go_wp2_with fail
      refine c.out.mono ?_
      rintro e w1 ⟨n, rfl, hnx, hb⟩
      obtain rfl := hnx x rfl
      clear hr hnx
      go_wp2
      go_ret2
      exact ⟨rfl, hb⟩
theorem rnumerals_any : Calls Tryz.prog 15 #[.string (bs l), .int .i64 low, .int .i64 high] w fun e w' => e = .returned (.tuple #[.int .i64 (numeP l low high).1, .int .i64 ((numeP l low high).2 : Nat)]) ∧ Below w.heap.size w w' := by
  have c := hid (rnumeral_any l w hl)
  cases hn : numL l with
  | none =>
    have hp : numeP l low high = (0, 3) := by unfold numeP; rw [hn]
    rw [hp]
    rw [hn] at c
    simp only [numI] at c
    clear hp hn
    go_enter Tryz.func15, Tryz.ntmps15
    go_wp2_with fail
    refine c.out.mono ?_
    rintro e w1 ⟨rfl, hb⟩
    go_wp2
    go_ret2
    exact ⟨rfl, hb⟩
  | some x =>
    have hle := numL_le l x hn
    rw [hn] at c
    simp only [numI] at c
    by_cases hr : (x : Int) < low ∨ high < (x : Int)
    · have hp : numeP l low high = (0, 2) := by unfold numeP; rw [hn]; exact if_pos hr
      rw [hp]
      have cw := fun w => hid (within_false (x : Int) low high w (by omega))
      clear hp hn
      go_enter Tryz.func15, Tryz.ntmps15
      go_wp2_with fail
      refine c.out.mono ?_
      rintro e w1 ⟨rfl, hb⟩
      go_wp2_with fail
      refine (cw _).out.mono ?_
      rintro e w2 ⟨rfl, rfl⟩
      go_wp2
      go_ret2
      exact ⟨rfl, hb⟩
    · have hp : numeP l low high = ((x : Int), 0) := by unfold numeP; rw [hn]; exact if_neg hr
      rw [hp]
      have cw := fun w => hid (within_true (x : Int) low high w (by omega) (by omega))
      clear hp hn
      go_enter Tryz.func15, Tryz.ntmps15
      go_wp2_with fail
      refine c.out.mono ?_
      rintro e w1 ⟨rfl, hb⟩
      go_wp2_with fail
      refine (cw _).out.mono ?_
      rintro e w2 ⟨rfl, rfl⟩
      go_wp2
      go_ret2
      exact ⟨rfl, hb⟩
end
end Go.Proofs.YtmdnkmeekfkkhaaGreatDoor
