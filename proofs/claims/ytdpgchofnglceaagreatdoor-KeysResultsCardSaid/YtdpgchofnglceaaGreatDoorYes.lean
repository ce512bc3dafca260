/- Yes or No, as text. -/
import Derived.Test.YtdpgchofnglceaaGreatDoorSeen
import Derived.Test.YtdpgchofnglceaaGreatDoorResPure
import Derived.Test.YtdpgchofnglceaaGreatDoorChecked
namespace Go.Proofs.YtdpgchofnglceaaGreatDoor
open Go Go.RowKit Go.Maps
set_option linter.unusedVariables false
set_option linter.unusedSectionVars false
set_option linter.unusedSimpArgs false
theorem boolLawY : Keyed Tryz.prog 4 := bool_keyed Tryz.underlying4
theorem zeroStrY (w : World) : (zeroValue 9).run Tryz.prog w = .ok (.string (bs [])) w := by kernel_rfl
theorem elemStrY (s : List UInt8) (h : s.length ≤ 100) : ∃ d p, plainElem (H := Unit) Tryz.prog 9 (.string (bs s)) = some (d, p) :=
  ⟨_, _, plainElem_string Tryz.underlying9 (by rw [bs_size]; unfold maxLen; omega)⟩
def yesT (b : Bool) : List UInt8 := if b then yesL else noL
def yesF1 : Value → Value | .bool true => .string (bs yesL) | _ => .string (bs [])
def yesF2 : Value → Value | .bool true => .string (bs yesL) | .bool false => .string (bs noL) | _ => .string (bs [])
theorem yes_any (b : Bool) (w : World) : Calls Tryz.prog 73 #[.bool b] w fun e w' => e = .returned (.string (bs (yesT b))) ∧ Below w.heap.size w w' := by
  obtain ⟨z, hz⟩ : ∃ z, ∃ p, plainElem (H := Unit) Tryz.prog 9 (.string (bs [])) = some (z, p) := by
    obtain ⟨d, p, h⟩ := elemStrY [] (by simp)
    exact ⟨d, p, h⟩
  obtain ⟨w1, r1, m1, g1⟩ := MapAs.put (T := 222) (MapAs.made (P := Tryz.prog) (K := 4) (E := 9) w (.string (bs [])) z hz) boolLawY Tryz.underlying222 (by unfold maxLen; omega) (keyOf_bool_mk Tryz.underlying4 true) (elemStrY yesL (by decide))
  have m1 := m1 yesF1 rfl (fun v hv => by
    cases v <;> try rfl
    rename_i q
    cases q
    · rfl
    · exact absurd rfl hv)
  obtain ⟨w2, r2, m2, g2⟩ := MapAs.put (T := 222) m1 boolLawY Tryz.underlying222 (by unfold maxLen; omega) (keyOf_bool_mk Tryz.underlying4 false) (elemStrY noL (by decide))
  have m2 := m2 yesF2 rfl (fun v hv => by
    cases v <;> try rfl
    rename_i q
    cases q
    · exact absurd rfl hv
    · rfl)
  have hl := MapAs.look m2 (T := 222) boolLawY Tryz.underlying222 (zeroStrY w2) hz (keyOf_bool_mk Tryz.underlying4 b)
  have hy : (⟨#[89, 101, 115]⟩ : ByteArray) = bs yesL := rfl
  have hn : (⟨#[78, 111]⟩ : ByteArray) = bs noL := rfl
  have hv : yesF2 (.bool b) = .string (bs (yesT b)) := by cases b <;> rfl
  rw [hv] at hl
  have hB : Below w.heap.size w w2 := by
    have h0 := (Below.refl w.heap.size w).alloc (Nat.le_refl _) (.map #[] 0)
    refine ⟨g2.os.trans (g1.os.trans h0.os), g2.tape.trans (g1.tape.trans h0.tape), g2.output.trans (g1.output.trans h0.output), Nat.le_trans h0.size (Nat.le_trans g1.size g2.size), fun k hk => ?_⟩
    have hk1 : k < (w.alloc (.map #[] 0)).heap.size := Nat.lt_of_lt_of_le hk h0.size
    have hne : some k ≠ some w.heap.size := by intro e; cases e; omega
    exact (g2.block k (Nat.lt_of_lt_of_le hk1 g1.size) hne).trans ((g1.block k hk1 hne).trans (h0.block k hk))
  have hmm := @run_makeMap Tryz.prog
  clear m1 m2 g1 g2 hz hv
  go_enter Tryz.func73, Tryz.ntmps73
  go_wp2
  go_ret
  exact ⟨rfl, hB⟩
end Go.Proofs.YtdpgchofnglceaaGreatDoor
