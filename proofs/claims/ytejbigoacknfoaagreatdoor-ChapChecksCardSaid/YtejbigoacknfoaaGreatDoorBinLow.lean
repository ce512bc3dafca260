/- strings.ToLower of one byte, strings.TrimSuffix of a sign, strings.Contains of a byte. -/
import Derived.Test.YtejbigoacknfoaaGreatDoorProg
import Derived.Test.YtejbigoacknfoaaGreatDoorBinRead
import Derived.Test.YtejbigoacknfoaaGreatDoorShelfT
set_option linter.unusedSectionVars false
set_option linter.unusedSimpArgs false
set_option linter.unusedVariables false
namespace Go.Proofs.YtejbigoacknfoaaGreatDoor
open Go Go.RowKit
set_option linter.unusedVariables false
set_option linter.unusedSectionVars false
set_option linter.unusedSimpArgs false
set_option maxRecDepth 100000
/-- the tables of letters' cases and of runes stand -/
def LT (w : World) : Prop := Lib.CaseVar 1 Lib.caseA w ∧ Lib.Utf8Tabs 6 7 w
theorem LT.below {w w' : World} (h : LT w) (hb : Below w.heap.size w w') : LT w' := by
  refine ⟨?_, Utf8Tabs_below h.2 hb⟩
  obtain ⟨R, oR, cap, h1, h2⟩ := h.1
  have cl : ∀ {g o : Nat} {v : Value}, w.cell? ⟨g, o, none⟩ = some v → w'.cell? ⟨g, o, none⟩ = some v := fun {g o v} hc => (hb.cell (p := ⟨g, o, none⟩) (block_lt_of_cell hc)).trans hc
  refine ⟨R, oR, cap, cl h1, fun i hi => ?_⟩
  obtain ⟨a, b, c, d, e⟩ := h2 i hi
  exact ⟨cl a, cl b, cl c, cl d, cl e⟩
def lowT (c : UInt8) : List UInt8 := if c.toNat < 128 then [lowA c] else [239, 191, 189]
theorem lowT_eq (c : UInt8) : Lib.toLowerD [c] = lowT c := u8_all (fun c => Lib.toLowerD [c] = lowT c) (by decide +kernel) c
theorem lowT_any (c : UInt8) (w : World) (h : LT w) : Calls Tryz.prog 55 #[.string (bs [c])] w fun e w' => e = .returned (.string (bs (lowT c))) ∧ Below w.heap.size w w' := by
  refine (Tryz.strings_ToLower_any (bs [c]) w (by rw [bs_size]; simp) h.1 h.2).mono ?_
  rintro e w' ⟨rfl, hb⟩
  refine ⟨?_, hb⟩
  rw [show (bs [c]).data.toList = [c] by simp [bs], lowT_eq]
  rfl
theorem cutE_trim (r : List UInt8) : Lib.trimSuffix r [61] = QBin.cutE r := by
  unfold Lib.trimSuffix QBin.cutE Lib.hasSuffix
  by_cases h : r.getLast? = some 61
  · obtain ⟨p, rfl⟩ := List.getLast?_eq_some_iff.1 h
    rw [if_pos h, if_pos (by rw [List.isSuffixOf_iff_suffix]; exact List.suffix_append _ _)]
    simp
  · rw [if_neg h, if_neg]
    intro h2
    rw [List.isSuffixOf_iff_suffix] at h2
    obtain ⟨p, rfl⟩ := h2
    exact h (by simp)
theorem trimE_any (r : List UInt8) (w : World) (h : r.length ≤ 1000) : Calls Tryz.prog 59 #[.string (bs r), .string (bs [61])] w fun e w' => e = .returned (.string (bs (QBin.cutE r))) ∧ w' = w := by
  refine (Tryz.strings_TrimSuffix (bs r) (bs [61]) w (by rw [bs_size]; omega)).mono ?_
  rintro e w' ⟨rfl, rfl⟩
  refine ⟨?_, rfl⟩
  rw [show (bs r).data.toList = r by simp [bs], show (bs [61]).data.toList = [61] by simp [bs], cutE_trim]
  rfl
theorem index_mem (l : List UInt8) (c : UInt8) : decide (0 ≤ Lib.indexByte l c) = decide (c ∈ l) := by
  have key : ∀ l : List UInt8, (c ∈ l → 0 ≤ Lib.indexByte l c) ∧ (c ∉ l → Lib.indexByte l c = -1) := by
    intro l
    induction l with
    | nil => exact ⟨fun h => (by cases h), fun _ => rfl⟩
    | cons b l ih =>
      rw [Lib.indexByte]
      by_cases hb : b = c
      · subst hb; simp
      · have hbb : (b == c) = false := beq_eq_false_iff_ne.2 hb
        rw [hbb]
        simp only [Bool.false_eq_true, if_false]
        refine ⟨fun h => ?_, fun h => ?_⟩
        · have hm : c ∈ l := by
            rcases List.mem_cons.1 h with h | h
            · exact absurd h.symm hb
            · exact h
          have := ih.1 hm
          rw [if_neg (by simp; omega)]; omega
        · rw [if_pos]
          have : c ∉ l := fun hm => h (List.mem_cons_of_mem _ hm)
          rw [ih.2 this]; rfl
  by_cases h : c ∈ l
  · rw [decide_eq_true h, decide_eq_true ((key l).1 h)]
  · rw [decide_eq_false h, decide_eq_false]
    rw [(key l).2 h]; omega
theorem has49_any (l : List UInt8) (w : World) : Calls Tryz.prog 61 #[.string (bs l), .string (bs [49])] w fun e w' => e = .returned (.bool (decide (49 ∈ l))) ∧ w' = w := by
  refine (Tryz.strings_Contains_one (bs l) 49 w).mono ?_
  rintro e w' ⟨rfl, rfl⟩
  refine ⟨?_, rfl⟩
  rw [show (bs l).data.toList = l by simp [bs], index_mem]
/-- what a value is -/
def binP (s : List UInt8) : List UInt8 × Nat × Int :=
  if s.length < 2 ∨ s.getD 0 0 ≠ 48 then ([], 3, -1) else
  if s.getD 1 0 = 120 ∨ s.getD 1 0 = 88 then QBin.unhexP (s.drop 2) else
  if s.getD 1 0 = 98 ∨ s.getD 1 0 = 66 then QBin.unbaseP (s.drop 2) else ([], 3, -1)
end Go.Proofs.YtejbigoacknfoaaGreatDoor
