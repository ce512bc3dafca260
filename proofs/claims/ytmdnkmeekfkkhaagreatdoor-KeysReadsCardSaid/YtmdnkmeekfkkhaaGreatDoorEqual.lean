/- slices.Equal at rows that read alike: true. -/
import Derived.Test.YtmdnkmeekfkkhaaGreatDoorProg
import Derived.Test.YtmdnkmeekfkkhaaGreatDoorBase
import Derived.Deep.QuietTactic
import Derived.BigQuiet
namespace Go.Proofs.YtmdnkmeekfkkhaaGreatDoor
open Go.RowKit
set_option linter.unusedVariables false
set_option maxRecDepth 100000
theorem eqStr_true (v1 v2 : Value) (n : Nat) (ss : List (List UInt8)) (w : World) (hn : n ≤ 4611686018427387904) (h1 : Sl w v1 1 n (ss.map fun s => .string (bs s))) (h2 : Sl w v2 1 n (ss.map fun s => .string (bs s))) :
    Calls Tryz.prog 20 #[v1, v2] w fun e w' => e = .returned (.bool true) ∧ Below w.heap.size w w' := by
  obtain ⟨a1, c1, rfl, hl1, hc1⟩ := h1
  obtain ⟨a2, c2, rfl, hl2, hc2⟩ := h2
  simp only [List.length_map, Nat.mul_one] at hl1 hl2
  by_cases h0 : n = 0
  · subst h0
    clear hc1 hc2
    go_enter Tryz.func20, Tryz.ntmps20
    go_wp2
    refine wp_loop_rounds 1 ?_
    rw [rounds_succ]
    go_wp2
    go_ret
    exact ⟨rfl, Below.refl _ _⟩
  obtain ⟨b1, o1, rfl, hd1⟩ := hc1.resolve_left h0
  obtain ⟨b2, o2, rfl, hd2⟩ := hc2.resolve_left h0
  have hcell : ∀ k, k < n → w.cell? ⟨b1, o1 + k, none⟩ = some (.string (bs (ss.getD k []))) ∧ w.cell? ⟨b2, o2 + k, none⟩ = some (.string (bs (ss.getD k []))) := by
    intro k hk
    have e : (ss.map fun s => Value.string (bs s))[k]? = some (.string (bs (ss.getD k []))) := by simp [List.getD, show k < ss.length by omega]
    exact ⟨hd1 k _ e, hd2 k _ e⟩
  have Hcell := hid hcell; clear hcell hc1 hc2 hd1 hd2 hl1 hl2
  go_enter Tryz.func20, Tryz.ntmps20
  go_wp2
  go_loopw [13] (fun i wr => ∃ k q : Nat, k ≤ n ∧ i = .int .i64 k ∧ wr = w.drewN q) (fun i _ => n - (intOf i).toNat)
  case atStart => exact ⟨0, 0, by omega, rfl, rfl⟩
  case round =>
    obtain ⟨k, q, hk, rfl, rfl⟩ := hrel
    by_cases hlt : k < n
    · obtain ⟨g1, g2⟩ := Hcell.out k hlt
      generalize ss.getD k [] = s at *
      go_wp2
      go_quiet (fail)
      go_wp2
      go_roundw
      case rel => exact ⟨k + 1, _, by omega, by go_num, rfl⟩
      case measure => simp [intOf]; omega
    · go_wp2
      go_ret
      exact ⟨rfl, below_drewN (Below.refl _ _) _⟩
end Go.Proofs.YtmdnkmeekfkkhaaGreatDoor
