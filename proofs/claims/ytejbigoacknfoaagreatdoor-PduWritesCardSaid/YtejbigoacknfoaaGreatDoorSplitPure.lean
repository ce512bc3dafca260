/- Texts cut at a byte: plain laws. -/
import Derived.Lib.Bytealg
set_option linter.unusedSectionVars false
set_option linter.unusedSimpArgs false
set_option linter.unusedVariables false
namespace Go.Proofs.YtejbigoacknfoaaGreatDoor
open Go
/-- the pieces of a text between bytes -/
def splitL (c : UInt8) : List UInt8 → List (List UInt8)
  | [] => [[]]
  | b :: l => if b = c then [] :: splitL c l else match splitL c l with | [] => [[b]] | p :: ps => (b :: p) :: ps
theorem splitL_ne (c : UInt8) (l : List UInt8) : splitL c l ≠ [] := by
  cases l with
  | nil => simp [splitL]
  | cons b l =>
    rw [splitL]
    split
    · simp
    · split <;> simp
theorem splitL_none (c : UInt8) (l : List UInt8) (h : c ∉ l) : splitL c l = [l] := by
  induction l with
  | nil => rfl
  | cons b l ih =>
    have hb : ¬ b = c := fun e => h (by simp [e])
    have hl : c ∉ l := fun e => h (by simp [e])
    rw [splitL, if_neg hb, ih hl]
theorem splitL_cons (c : UInt8) (p l : List UInt8) (h : c ∉ p) : splitL c (p ++ c :: l) = p :: splitL c l := by
  induction p with
  | nil => simp [splitL]
  | cons b p ih =>
    have hb : ¬ b = c := fun e => h (by simp [e])
    have hl : c ∉ p := fun e => h (by simp [e])
    rw [List.cons_append, splitL, if_neg hb, ih hl]
theorem idx_cases (l : List UInt8) (c : UInt8) : (Lib.indexByte l c = -1 ∧ c ∉ l) ∨ ∃ (i : Nat), Lib.indexByte l c = (i : Int) ∧ i < l.length ∧ l = l.take i ++ c :: l.drop (i + 1) ∧ c ∉ l.take i := by
  induction l with
  | nil => left; exact ⟨rfl, by simp⟩
  | cons b l ih =>
    rw [Lib.indexByte]
    by_cases hb : b = c
    · right
      subst hb
      exact ⟨0, by simp, by simp, by simp, by simp⟩
    · have hb' : (b == c) = false := by simpa using hb
      rcases ih with ⟨h1, h2⟩ | ⟨i, h1, h2, h3, h4⟩
      · left
        rw [hb', h1]
        refine ⟨by simp, ?_⟩
        simp only [List.mem_cons, not_or]
        exact ⟨fun e => hb e.symm, h2⟩
      · right
        rw [hb', h1]
        have hne : ((i : Int) == -1) = false := by rw [beq_eq_false_iff_ne]; omega
        refine ⟨i + 1, by rw [hne]; simp, by simp; omega, ?_, ?_⟩
        · simp only [List.take_succ_cons, List.drop_succ_cons, List.cons_append]; rw [← h3]
        · simp only [List.take_succ_cons, List.mem_cons, not_or]; exact ⟨fun e => hb e.symm, h4⟩
theorem splitL_idx (c : UInt8) (l : List UInt8) (i : Nat) (h3 : l = l.take i ++ c :: l.drop (i + 1)) (h4 : c ∉ l.take i) : splitL c l = l.take i :: splitL c (l.drop (i + 1)) := by
  have := splitL_cons c (l.take i) (l.drop (i + 1)) h4
  rwa [← h3] at this
theorem count_idx (c : UInt8) (l : List UInt8) (i : Nat) (h3 : l = l.take i ++ c :: l.drop (i + 1)) (h4 : c ∉ l.take i) : l.count c = (l.drop (i + 1)).count c + 1 := by
  have h : l.count c = (l.take i ++ c :: l.drop (i + 1)).count c := congrArg _ h3
  rw [h, List.count_append, List.count_eq_zero_of_not_mem h4, List.count_cons_self]; omega
theorem splitL_length (c : UInt8) (l : List UInt8) : (splitL c l).length = l.count c + 1 := by
  induction l with
  | nil => rfl
  | cons b l ih =>
    rw [splitL]
    by_cases hb : b = c
    · subst hb; rw [if_pos rfl, List.length_cons, ih, List.count_cons_self]
    · rw [if_neg hb, List.count_cons_of_ne hb, ← ih]
      have := splitL_ne c l
      split
      · rename_i h; exact absurd h this
      · rename_i h; rw [h]; simp
/-- cut at the first byte c: ahead, behind, whether there is one -/
def cutL (c : UInt8) : List UInt8 → List UInt8 × List UInt8 × Bool
  | [] => ([], [], false)
  | b :: l => if b = c then ([], l, true) else (b :: (cutL c l).1, (cutL c l).2)
theorem cutL_none (c : UInt8) (l : List UInt8) (h : c ∉ l) : cutL c l = (l, [], false) := by
  induction l with
  | nil => rfl
  | cons b l ih =>
    have hb : ¬ b = c := fun e => h (by simp [e])
    rw [cutL, if_neg hb, ih (fun e => h (by simp [e]))]
theorem cutL_cons (c : UInt8) (p l : List UInt8) (h : c ∉ p) : cutL c (p ++ c :: l) = (p, l, true) := by
  induction p with
  | nil => simp [cutL]
  | cons b p ih =>
    have hb : ¬ b = c := fun e => h (by simp [e])
    rw [List.cons_append, cutL, if_neg hb, ih (fun e => h (by simp [e]))]
theorem cutL_idx (c : UInt8) (l : List UInt8) (i : Nat) (h3 : l = l.take i ++ c :: l.drop (i + 1)) (h4 : c ∉ l.take i) : cutL c l = (l.take i, l.drop (i + 1), true) := by
  have := cutL_cons c (l.take i) (l.drop (i + 1)) h4
  rwa [← h3] at this
theorem cutL_split (c : UInt8) (l : List UInt8) : splitL c l = if (cutL c l).2.2 then (cutL c l).1 :: splitL c (cutL c l).2.1 else [l] := by
  rcases idx_cases l c with ⟨_, h⟩ | ⟨i, _, _, h3, h4⟩
  · rw [cutL_none c l h, splitL_none c l h]; rfl
  · rw [cutL_idx c l i h3 h4, splitL_idx c l i h3 h4]; rfl
theorem cutL_length (c : UInt8) (l : List UInt8) : (cutL c l).2.2 = true → (cutL c l).1.length + (cutL c l).2.1.length + 1 = l.length := by
  rcases idx_cases l c with ⟨_, h⟩ | ⟨i, _, hi, h3, h4⟩
  · rw [cutL_none c l h]; intro h; cases h
  · rw [cutL_idx c l i h3 h4]; intro _; simp; omega
/-- cells of texts -/
def sArr (l : List (List UInt8)) : Array Value := (l.map fun x => Value.string ⟨x.toArray⟩).toArray
theorem sArr_size (l : List (List UInt8)) : (sArr l).size = l.length := by simp [sArr]
theorem sArr_get (l : List (List UInt8)) (i : Nat) (h : i < l.length) : (sArr l)[i]? = some (.string ⟨l[i].toArray⟩) := by simp [sArr, h]
theorem sArr_set (ds : List (List UInt8)) (m : Nat) (x : List UInt8) : (sArr (ds ++ List.replicate (m + 1) [])).setIfInBounds ds.length (.string ⟨x.toArray⟩) = sArr ((ds ++ [x]) ++ List.replicate m []) := by
  simp [sArr, List.replicate_succ]
end Go.Proofs.YtejbigoacknfoaaGreatDoor
