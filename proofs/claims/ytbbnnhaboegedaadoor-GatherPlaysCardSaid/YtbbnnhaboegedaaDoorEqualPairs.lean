/- slices.Equal at rows of pairs that read alike: true. -/
import Derived.Test.YtbbnnhaboegedaaDoorPairIn
import Derived.Deep.QuietTactic
import Derived.BigQuiet
namespace Go.Proofs.YtbbnnhaboegedaaDoor
open Go.RowKit
set_option linter.unusedVariables false
set_option maxRecDepth 100000
theorem eqPairs_true (v1 v2 : Value) (xs : PL) (w : World) (hn : xs.length ≤ 4611686018427387904) (h1 : PSl w v1 xs) (h2 : PSl w v2 xs) :
    Calls Tryd.prog 24 #[v1, v2] w fun e w' => e = .returned (.bool true) ∧ Below w.heap.size w w' := by
  obtain ⟨a1, c1, rfl, hl1, hc1⟩ := h1
  obtain ⟨a2, c2, rfl, hl2, hc2⟩ := h2
  generalize hn' : xs.length = n at *
  by_cases h0 : n = 0
  · subst h0
    clear hc1 hc2 hn'
    go_enter Tryd.func24, Tryd.ntmps24
    go_wp2
    refine wp_loop_rounds 1 ?_
    rw [rounds_succ]
    go_wp2
    go_ret
    exact ⟨rfl, Below.refl _ _⟩
  obtain ⟨b1, o1, rfl, hd1⟩ := hc1.resolve_left h0
  obtain ⟨b2, o2, rfl, hd2⟩ := hc2.resolve_left h0
  have hcell : ∀ k, k < n → (w.cell? ⟨b1, o1 + k * 2, none⟩ = some (.string (bs (xs.getD k ([], [])).1)) ∧ w.cell? ⟨b1, o1 + k * 2 + 1, none⟩ = some (.string (bs (xs.getD k ([], [])).2))) ∧
      w.cell? ⟨b2, o2 + k * 2, none⟩ = some (.string (bs (xs.getD k ([], [])).1)) ∧ w.cell? ⟨b2, o2 + k * 2 + 1, none⟩ = some (.string (bs (xs.getD k ([], [])).2)) := by
    intro k hk
    obtain ⟨e1, e2⟩ := pairCells_at xs k (by omega)
    have a := hd1 _ _ e1; have b := hd1 _ _ e2; have c := hd2 _ _ e1; have d := hd2 _ _ e2
    simp only [Nat.mul_comm k 2, Nat.add_assoc]
    exact ⟨⟨a, b⟩, c, d⟩
  have Hcell := hid hcell; clear hcell hc1 hc2 hd1 hd2 hl1 hl2 hn'
  go_enter Tryd.func24, Tryd.ntmps24
  go_wp2
  go_loopw [13] (fun i wr => ∃ k q : Nat, k ≤ n ∧ i = .int .i64 k ∧ wr = w.drewN q) (fun i _ => n - (intOf i).toNat)
  case atStart => exact ⟨0, 0, by omega, rfl, rfl⟩
  case round =>
    obtain ⟨k, q, hk, rfl, rfl⟩ := hrel
    by_cases hlt : k < n
    · obtain ⟨⟨g1, g2⟩, g3, g4⟩ := Hcell.out k hlt
      generalize xs.getD k ([], []) = s at *
      obtain ⟨s1, s2⟩ := s
      simp only at g1 g2 g3 g4
      go_wp2
      go_quiet (fail)
      go_wp2
      go_roundw
      case rel => exact ⟨k + 1, _, by omega, by go_num, rfl⟩
      case measure => simp [intOf]; omega
    · go_wp2
      go_ret
      exact ⟨rfl, below_drewN (Below.refl _ _) _⟩
end Go.Proofs.YtbbnnhaboegedaaDoor
