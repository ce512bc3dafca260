/- The bytes that are free: a map of numbers. -/
import Derived.Test.YtnkdbmenmaabjaaGreatDoorMap
import Derived.Test.YtnkdbmenmaabjaaGreatDoorChecked
namespace Go.Proofs.YtnkdbmenmaabjaaGreatDoor
open Go Go.RowKit Go.Maps
set_option linter.unusedVariables false
set_option linter.unusedSectionVars false
set_option linter.unusedSimpArgs false
theorem intLaw : Keyed Tryz.prog 3 := int_keyed Tryz.underlying3
theorem zeroBool (w : World) : (zeroValue 4).run Tryz.prog w = .ok (.bool false) w := by kernel_rfl
def inF (l : List Int) (v : Value) : Value := match v with | .int .i64 i => .bool (l.contains i) | _ => .bool false
abbrev FreeM (w : World) (b n : Nat) (l : List Int) : Prop := MapAs w Tryz.prog 3 4 (.lit (.bool false)) b n (inF l)
theorem elemBool (x : Bool) : ∃ p, plainElem (H := Unit) Tryz.prog 4 (.bool x) = some (.lit (.bool x), p) := ⟨[], plainElem_bool Tryz.underlying4 x⟩
theorem intKey (i : Int) (h0 : -9223372036854775808 ≤ i) (h1 : i ≤ 9223372036854775807) : keyOf Tryz.prog 3 (.int .i64 i) = some (.int .i64 i) :=
  keyOf_int_mk Tryz.underlying3 (WalkArith.wf_i64 (by omega))
theorem FreeM.made (w : World) : FreeM (w.alloc (.map #[] 0)) w.heap.size 0 [] :=
  (MapAs.made w (.bool false) _ (elemBool false)).fn fun v kl h => by cases v <;> try rfl
                                                                      rename_i k i
                                                                      cases k <;> rfl
theorem FreeM.look {w : World} {b n : Nat} {l : List Int} (h : FreeM w b n l) (i : Int) (h0 : -9223372036854775808 ≤ i) (h1 : i ≤ 9223372036854775807) :
    (Instr.lookup 73 (.map (some b)) (.int .i64 i) false).run Tryz.prog w = .ok (.bool (l.contains i)) w :=
  MapAs.look h intLaw Tryz.underlying73 (zeroBool w) (elemBool false) (intKey i h0 h1)
theorem FreeM.put {w : World} {b n : Nat} {l : List Int} (h : FreeM w b n l) (hn : n < 1000000) (i : Int) (h0 : -9223372036854775808 ≤ i) (h1 : i ≤ 9223372036854775807) :
    ∃ w', (Instr.mapUpdate 73 (.map (some b)) (.int .i64 i) (.bool true)).run Tryz.prog w = .ok () w' ∧ FreeM w' b (n + 1) (i :: l) ∧ w.grownBy w' (some b) := by
  obtain ⟨w', hr, hf, hg⟩ := MapAs.put h intLaw Tryz.underlying73 (by unfold maxLen; omega) (intKey i h0 h1) ⟨_, elemBool true⟩
  refine ⟨w', hr, hf _ (by simp [inF]) (fun v hv => ?_), hg⟩
  cases v <;> try rfl
  rename_i k j
  cases k <;> try rfl
  simp only [inF, List.contains_cons]
  have : (j == i) = false := by
    rw [beq_eq_false_iff_ne]
    rintro rfl
    exact hv rfl
  rw [this, Bool.false_or]
end Go.Proofs.YtnkdbmenmaabjaaGreatDoor
