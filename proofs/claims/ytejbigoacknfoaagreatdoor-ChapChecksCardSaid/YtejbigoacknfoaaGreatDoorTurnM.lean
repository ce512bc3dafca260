/- The turns of MD5, as a map of numbers. -/
import Derived.Test.YtejbigoacknfoaaGreatDoorMap
import Derived.Test.YtejbigoacknfoaaGreatDoorMd5Pure
import Derived.Test.YtejbigoacknfoaaGreatDoorChecked
set_option linter.unusedSectionVars false
set_option linter.unusedSimpArgs false
set_option linter.unusedVariables false
namespace Go.Proofs.YtejbigoacknfoaaGreatDoor
open Go Go.RowKit Go.Maps
set_option linter.unusedVariables false
set_option linter.unusedSectionVars false
set_option linter.unusedSimpArgs false
theorem intLawM : Keyed Tryz.prog 3 := int_keyed Tryz.underlying3
theorem zeroIntM (w : World) : (zeroValue 3).run Tryz.prog w = .ok (.int .i64 0) w := by kernel_rfl
/-- what stands at a number -/
def assocI : List (Int × Int) → Int → Int
  | [], _ => 0
  | x :: l, i => if x.1 = i then x.2 else assocI l i
def assocF (l : List (Int × Int)) (v : Value) : Value := match v with | .int .i64 i => .int .i64 (assocI l i) | _ => .int .i64 0
abbrev TurnM (w : World) (b n : Nat) (l : List (Int × Int)) : Prop := MapAs w Tryz.prog 3 3 (.lit (.int .i64 0)) b n (assocF l)
theorem elemIntM (x : Int) (h0 : -9223372036854775808 ≤ x) (h1 : x ≤ 9223372036854775807) : ∃ p, plainElem (H := Unit) Tryz.prog 3 (.int .i64 x) = some (.lit (.int .i64 x), p) :=
  ⟨[], plainElem_int Tryz.underlying3 (WalkArith.wf_i64 (by omega))⟩
theorem intKeyM (i : Int) (h0 : -9223372036854775808 ≤ i) (h1 : i ≤ 9223372036854775807) : keyOf Tryz.prog 3 (.int .i64 i) = some (.int .i64 i) :=
  keyOf_int_mk Tryz.underlying3 (WalkArith.wf_i64 (by omega))
theorem TurnM.made (w : World) : TurnM (w.alloc (.map #[] 0)) w.heap.size 0 [] := by
  refine (MapAs.made w (.int .i64 0) _ (elemIntM 0 (by omega) (by omega))).fn fun v kl h => ?_
  cases v <;> try rfl
  rename_i k i
  cases k <;> rfl
theorem TurnM.look {w : World} {b n : Nat} {l : List (Int × Int)} (h : TurnM w b n l) (i : Int) (h0 : -9223372036854775808 ≤ i) (h1 : i ≤ 9223372036854775807) :
    (Instr.lookup 203 (.map (some b)) (.int .i64 i) false).run Tryz.prog w = .ok (.int .i64 (assocI l i)) w :=
  MapAs.look h intLawM Tryz.underlying203 (zeroIntM w) (elemIntM 0 (by omega) (by omega)) (intKeyM i h0 h1)
theorem TurnM.put {w : World} {b n : Nat} {l : List (Int × Int)} (h : TurnM w b n l) (hn : n < 1000000) (i x : Int) (h0 : -9223372036854775808 ≤ i) (h1 : i ≤ 9223372036854775807) (h2 : -9223372036854775808 ≤ x) (h3 : x ≤ 9223372036854775807) :
    ∃ w', (Instr.mapUpdate 203 (.map (some b)) (.int .i64 i) (.int .i64 x)).run Tryz.prog w = .ok () w' ∧ TurnM w' b (n + 1) ((i, x) :: l) ∧ w.grownBy w' (some b) := by
  obtain ⟨w', hr, hf, hg⟩ := MapAs.put h intLawM Tryz.underlying203 (by unfold maxLen; omega) (intKeyM i h0 h1) ⟨_, elemIntM x h2 h3⟩
  refine ⟨w', hr, hf _ (by simp [assocF, assocI]) (fun v hv => ?_), hg⟩
  cases v <;> try rfl
  rename_i k j
  cases k <;> try rfl
  simp only [assocF, assocI]
  rw [if_neg]
  intro e
  apply hv
  rw [e]
def turnsI : List (Int × Int) := [(51, 21), (50, 15), (49, 10), (48, 6), (35, 23), (34, 16), (33, 11), (32, 4), (19, 20), (18, 14), (17, 9), (16, 5), (3, 22), (2, 17), (1, 12), (0, 7)]
theorem turns_look (k : Nat) (h : k < 64) : assocI turnsI (((k / 16 * 16 + k % 4 : Nat)) : Int) = (QMd.turnN k : Nat) := by
  have : ∀ j : Fin 64, assocI turnsI (((j.val / 16 * 16 + j.val % 4 : Nat)) : Int) = (QMd.turnN j.val : Nat) := by decide +kernel
  exact this ⟨k, h⟩
end Go.Proofs.YtejbigoacknfoaaGreatDoor
