/- How much additional headers hold, told by the law: some answer. -/
import Derived.Test.YtejbigoacknfoaaGreatDoorAhsW
set_option linter.unusedSectionVars false
set_option linter.unusedSimpArgs false
set_option linter.unusedVariables false
namespace Go.Proofs.YtejbigoacknfoaaGreatDoor
open Go Go.RowKit
set_option linter.unusedVariables false
set_option linter.unusedSectionVars false
set_option linter.unusedSimpArgs false
set_option maxRecDepth 100000
def WidePost (w : World) (e : Ending) (w' : World) : Prop := (∃ b : Bool, e = .returned (.bool b)) ∧ Below w.heap.size w w'
def RWide (n : Nat) (w : World) (sum i : Value) (wr : World) : Prop :=
  ∃ (k : Nat) (m : Int), k ≤ n ∧ i = .int .i64 (k : Nat) ∧ sum = .int .i64 m ∧ Below w.heap.size w wr
theorem wide_any (v : Value) (n : Nat) (I : Nat → Int × List UInt8) (w : World) (h : AhsIn w v n I) :
    Calls Tryz.prog 70 #[v] w fun e w' => WidePost w e w' := by
  obtain ⟨hn, hv, hcell⟩ := h
  unfold maxLen at hn
  rcases hv with ⟨rfl, rfl⟩ | ⟨a, cap, rfl⟩
  · go_enter Tryz.func70, Tryz.ntmps70
    go_wp2
    refine wp_loop_rounds 1 ?_
    rw [rounds_succ]
    go_wp2
    go_ret
    exact ⟨⟨_, rfl⟩, Below.refl _ _⟩
  have Hcell := hid (hcell a n cap rfl); clear hcell
  go_enter Tryz.func70, Tryz.ntmps70
  go_wp2
  go_loopw [3, 10] (fun sum i wr => RWide n w sum i wr) (fun _ i _ => n - (intOf i).toNat)
  case atStart => exact ⟨0, _, by omega, rfl, rfl, Below.refl _ _⟩
  case round =>
    obtain ⟨k, m, hk, rfl, rfl, hb⟩ := hrel
    have hB := hb.size
    by_cases hlt : k < n
    · obtain ⟨c0, c1, hr0, hr1, hd⟩ := Hcell.out k hlt
      have g0 : wr.cell? (a.add (k * 2)) = _ := (hb.cell (block_lt_of_cell c0)).trans c0
      have e1 : (⟨(a.add (k * 2)).block, (a.add (k * 2)).off + 1, none⟩ : Addr) = a.add (k * 2 + 1) := by
        unfold Addr.add; rcases Nat.eq_zero_or_pos k with h | h
        · subst h; simp
        · rw [if_neg (by omega), if_neg (by omega)]; simp [Nat.add_assoc]
      have g1 : wr.cell? ⟨(a.add (k * 2)).block, (a.add (k * 2)).off + 1, none⟩ = _ := (congrArg wr.cell? e1).trans ((hb.cell (block_lt_of_cell c1)).trans c1)
      clear c0 c1 e1
      generalize I k = x at *
      obtain ⟨kd, d⟩ := x
      simp only at *
      go_wp2
      go_roundw
      case rel => exact ⟨k + 1, _, by omega, by go_num, rfl, hb.alloc hB _⟩
      case measure => simp [intOf]; omega
    · go_wp2
      go_ret
      exact ⟨⟨_, rfl⟩, hb⟩
end Go.Proofs.YtejbigoacknfoaaGreatDoor
