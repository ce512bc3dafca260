/- slices.Equal at rows of fields that read alike: true. -/
import Derived.Test.YtkkjmfllibnfcaaGreatDoorHeadRight
import Derived.Deep.QuietTactic
import Derived.BigQuiet
namespace Go.Proofs.YtkkjmfllibnfcaaGreatDoor
open Go Go.RowKit
set_option linter.unusedVariables false
set_option linter.unusedSectionVars false
set_option linter.unusedSimpArgs false
set_option maxRecDepth 100000
theorem eqFields_true (v1 v2 : Value) (xs : List FR) (w : World) (hn : xs.length ≤ 4611686018427387904) (h1 : Sl w v1 3 xs.length (fieldCells xs)) (h2 : Sl w v2 3 xs.length (fieldCells xs)) :
    Calls Tryz.prog 22 #[v1, v2] w fun e w' => e = .returned (.bool true) ∧ Below w.heap.size w w' := by
  by_cases h0 : xs.length = 0
  · obtain ⟨a1, c1, rfl, hl1, hc1⟩ := h1
    obtain ⟨a2, c2, rfl, hl2, hc2⟩ := h2
    rw [h0]
    clear hc1 hc2 hl1 hl2 hn h0
    go_enter Tryz.func22, Tryz.ntmps22
    go_wp2
    refine wp_loop_rounds 1 ?_
    rw [rounds_succ]
    go_wp2
    go_ret
    exact ⟨rfl, Below.refl _ _⟩
  obtain ⟨b1, o1, c1, rfl, hb1, hd1⟩ := fields_open h1 (by omega)
  obtain ⟨b2, o2, c2, rfl, hb2, hd2⟩ := fields_open h2 (by omega)
  have Hd1 := hid hd1; have Hd2 := hid hd2
  clear hd1 hd2 h1 h2
  go_enter Tryz.func22, Tryz.ntmps22
  go_wp2
  go_loopw [13] (fun i wr => ∃ k q : Nat, k ≤ xs.length ∧ i = .int .i64 k ∧ wr = w.drewN q) (fun i _ => xs.length - (intOf i).toNat)
  case atStart => exact ⟨0, 0, by omega, rfl, rfl⟩
  case round =>
    obtain ⟨k, q, hk, rfl, rfl⟩ := hrel
    by_cases hlt : k < xs.length
    · obtain ⟨f, hfk⟩ : ∃ f, xs[k]? = some f := ⟨xs[k], List.getElem?_eq_getElem hlt⟩
      obtain ⟨g1, g2, g3⟩ := Hd1.out k f hfk
      obtain ⟨g4, g5, g6⟩ := Hd2.out k f hfk
      go_wp2
      go_quiet (fail)
      go_wp2
      go_roundw
      case rel => exact ⟨k + 1, _, by omega, by go_num, rfl⟩
      case measure => simp [intOf]; omega
    · go_wp2
      go_ret
      exact ⟨rfl, below_drewN (Below.refl _ _) _⟩
end Go.Proofs.YtkkjmfllibnfcaaGreatDoor
