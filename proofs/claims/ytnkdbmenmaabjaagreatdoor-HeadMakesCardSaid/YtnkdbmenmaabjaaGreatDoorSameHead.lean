/- Two heads that read alike are alike: slices.Equal of numbers, and the law's own comparing. -/
import Derived.Test.YtnkdbmenmaabjaaGreatDoorHeadRight
import Derived.Deep.QuietTactic
import Derived.BigQuiet
namespace Go.Proofs.YtnkdbmenmaabjaaGreatDoor
open Go Go.RowKit
set_option linter.unusedVariables false
set_option linter.unusedSectionVars false
set_option linter.unusedSimpArgs false
set_option maxRecDepth 100000
theorem eqU64_true (v1 v2 : Value) (xs : List Nat) (w : World) (hn : xs.length ≤ 4611686018427387904) (h1 : Sl w v1 1 xs.length (u64Cells xs)) (h2 : Sl w v2 1 xs.length (u64Cells xs)) :
    Calls Tryz.prog 34 #[v1, v2] w fun e w' => e = .returned (.bool true) ∧ Below w.heap.size w w' := by
  by_cases h0 : xs.length = 0
  · obtain ⟨a1, c1, rfl, hl1, hc1⟩ := h1
    obtain ⟨a2, c2, rfl, hl2, hc2⟩ := h2
    rw [h0]
    clear hc1 hc2 hl1 hl2 hn h0
    go_enter Tryz.func34, Tryz.ntmps34
    go_wp2
    refine wp_loop_rounds 1 ?_
    rw [rounds_succ]
    go_wp2
    go_ret
    exact ⟨rfl, Below.refl _ _⟩
  obtain ⟨b1, o1, c1, rfl, hb1, hd1⟩ := vals_open h1 (by omega)
  obtain ⟨b2, o2, c2, rfl, hb2, hd2⟩ := vals_open h2 (by omega)
  have Hd1 := hid hd1; have Hd2 := hid hd2
  clear hd1 hd2 h1 h2
  go_enter Tryz.func34, Tryz.ntmps34
  go_wp2
  go_loopw [13] (fun i wr => ∃ k q : Nat, k ≤ xs.length ∧ i = .int .i64 k ∧ wr = w.drewN q) (fun i _ => xs.length - (intOf i).toNat)
  case atStart => exact ⟨0, 0, by omega, rfl, rfl⟩
  case round =>
    obtain ⟨k, q, hk, rfl, rfl⟩ := hrel
    by_cases hlt : k < xs.length
    · obtain ⟨x, hxk⟩ : ∃ x, xs[k]? = some x := ⟨xs[k], List.getElem?_eq_getElem hlt⟩
      have g1 := Hd1.out k x hxk
      have g2 := Hd2.out k x hxk
      go_wp2
      go_quiet (fail)
      go_wp2
      go_roundw
      case rel => exact ⟨k + 1, _, by omega, by go_num, rfl⟩
      case measure => simp [intOf]; omega
    · go_wp2
      go_ret
      exact ⟨rfl, below_drewN (Below.refl _ _) _⟩
theorem sameHead_true (op : Int) (now : Bool) (flags : Int) (v1 v2 : Value) (xs : List Nat) (w : World) (hn : xs.length ≤ 4611686018427387904) (h1 : Sl w v1 1 xs.length (u64Cells xs)) (h2 : Sl w v2 1 xs.length (u64Cells xs)) :
    Calls Tryz.prog 15 #[headV op now flags v1, headV op now flags v2] w fun e w' => e = .returned (.bool true) ∧ Below w.heap.size w w' := by
  have c1 := fun w1 (hb : Below w.heap.size w w1) => hid (eqU64_true v1 v2 xs w1 hn (h1.below (Nat.le_refl _) hb) (h2.below (Nat.le_refl _) hb))
  have b1 := ((Below.refl w.heap.size w).alloc (Nat.le_refl _) (.cells #[.int .i64 op, .bool now, .int .i64 flags, v1] 37)).alloc (by simp) (.cells #[.int .i64 op, .bool now, .int .i64 flags, v2] 37)
  obtain ⟨a1, k1, rfl, _⟩ := h1
  obtain ⟨a2, k2, rfl, _⟩ := h2
  unfold headV
  go_enter Tryz.func15, Tryz.ntmps15
  go_wp2_with fail
  refine (c1 _ b1).out.mono ?_
  rintro e w2 ⟨rfl, hb⟩
  go_wp2
  go_ret
  exact ⟨rfl, b1.trans (hb.mono b1.size)⟩
end Go.Proofs.YtnkdbmenmaabjaaGreatDoor
