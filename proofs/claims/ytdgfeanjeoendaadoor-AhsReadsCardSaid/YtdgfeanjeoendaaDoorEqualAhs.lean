/- slices.Equal at rows of additional headers that read alike: true. -/
import Derived.Test.YtdgfeanjeoendaaDoorAhs
import Derived.Deep.QuietTactic
import Derived.BigQuiet
namespace Go.Proofs.YtdgfeanjeoendaaDoor
open Go.RowKit
set_option linter.unusedVariables false
set_option maxRecDepth 100000
theorem ahsCells_length (xs : List (Nat × List UInt8)) : (ahsCells xs).length = xs.length * 2 := by
  induction xs with
  | nil => rfl
  | cons x xs ih => simp only [ahsCells, List.flatMap_cons, List.length_append, List.length_cons, List.length_nil] at ih ⊢; omega
theorem ahsCells_at (xs : List (Nat × List UInt8)) (k : Nat) (h : k < xs.length) : (ahsCells xs)[2 * k]? = some (.int .i64 ((xs.getD k (0, [])).1 : Nat)) ∧ (ahsCells xs)[2 * k + 1]? = some (.string (bs (xs.getD k (0, [])).2)) := by
  induction xs generalizing k with
  | nil => simp at h
  | cons x xs ih =>
    cases k with
    | zero => simp [ahsCells]
    | succ k =>
      have := ih k (by simpa using h)
      have e : ahsCells (x :: xs) = .int .i64 (x.1 : Nat) :: .string (bs x.2) :: ahsCells xs := rfl
      rw [e]
      simp only [show 2 * (k + 1) = 2 * k + 1 + 1 by omega, show 2 * k + 1 + 1 + 1 = (2 * k + 1) + 1 + 1 by omega, List.getElem?_cons_succ, List.getD_cons_succ]
      exact this
theorem eqAhs_true (v1 v2 : Value) (n : Nat) (xs : List (Nat × List UInt8)) (w : World) (hn : n ≤ 4611686018427387904) (h1 : Sl w v1 2 n (ahsCells xs)) (h2 : Sl w v2 2 n (ahsCells xs)) :
    Calls Tryd.prog 28 #[v1, v2] w fun e w' => e = .returned (.bool true) ∧ Below w.heap.size w w' := by
  obtain ⟨a1, c1, rfl, hl1, hc1⟩ := h1
  obtain ⟨a2, c2, rfl, hl2, hc2⟩ := h2
  rw [ahsCells_length] at hl1 hl2
  by_cases h0 : n = 0
  · subst h0
    clear hc1 hc2
    go_enter Tryd.func28, Tryd.ntmps28
    go_wp2
    refine wp_loop_rounds 1 ?_
    rw [rounds_succ]
    go_wp2
    go_ret
    exact ⟨rfl, Below.refl _ _⟩
  obtain ⟨b1, o1, rfl, hd1⟩ := hc1.resolve_left h0
  obtain ⟨b2, o2, rfl, hd2⟩ := hc2.resolve_left h0
  have hcell : ∀ k, k < n → (w.cell? ⟨b1, o1 + k * 2, none⟩ = some (.int .i64 ((xs.getD k (0, [])).1 : Nat)) ∧ w.cell? ⟨b1, o1 + k * 2 + 1, none⟩ = some (.string (bs (xs.getD k (0, [])).2))) ∧
      w.cell? ⟨b2, o2 + k * 2, none⟩ = some (.int .i64 ((xs.getD k (0, [])).1 : Nat)) ∧ w.cell? ⟨b2, o2 + k * 2 + 1, none⟩ = some (.string (bs (xs.getD k (0, [])).2)) := by
    intro k hk
    obtain ⟨e1, e2⟩ := ahsCells_at xs k (by omega)
    have a := hd1 _ _ e1; have b := hd1 _ _ e2; have c := hd2 _ _ e1; have d := hd2 _ _ e2
    simp only [Nat.mul_comm k 2, Nat.add_assoc]
    exact ⟨⟨a, b⟩, c, d⟩
  have Hcell := hid hcell; clear hcell hc1 hc2 hd1 hd2 hl1 hl2
  go_enter Tryd.func28, Tryd.ntmps28
  go_wp2
  go_loopw [13] (fun i wr => ∃ k q : Nat, k ≤ n ∧ i = .int .i64 k ∧ wr = w.drewN q) (fun i _ => n - (intOf i).toNat)
  case atStart => exact ⟨0, 0, by omega, rfl, rfl⟩
  case round =>
    obtain ⟨k, q, hk, rfl, rfl⟩ := hrel
    by_cases hlt : k < n
    · obtain ⟨⟨g1, g2⟩, g3, g4⟩ := Hcell.out k hlt
      generalize xs.getD k (0, []) = s at *
      obtain ⟨s1, s2⟩ := s
      simp only at g1 g2 g3 g4
      go_wp2
      go_quiet (fail)
      go_wp2
      go_roundw
      case rel => exact ⟨k + 1, _, by omega, by go_num, rfl⟩
      case measure => simp [intOf]; omega
    · go_wp2
      go_ret
      exact ⟨rfl, below_drewN (Below.refl _ _) _⟩
end Go.Proofs.YtdgfeanjeoendaaDoor
