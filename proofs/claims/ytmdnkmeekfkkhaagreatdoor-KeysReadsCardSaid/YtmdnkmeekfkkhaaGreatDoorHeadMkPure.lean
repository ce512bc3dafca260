/- The head that names and numbers make: plain laws. -/
import Derived.Test.YtmdnkmeekfkkhaaGreatDoorHeadIn
namespace Go.Proofs.YtmdnkmeekfkkhaaGreatDoor
open Go Go.RowKit
set_option linter.unusedVariables false
/-- the place of the last of the first k fields that has the name, or -1 -/
def atN (fs : List FR) (n : List UInt8) : Nat → Int
  | 0 => -1
  | k + 1 => if (fs[k]?.map FR.name) = some n then (k : Int) else atN fs n k
theorem atN_step (fs : List FR) (n : List UInt8) (k : Nat) (f : FR) (h : fs[k]? = some f) : atN fs n (k + 1) = if f.name = n then (k : Int) else atN fs n k := by
  rw [atN, h]; simp
theorem atN_range (fs : List FR) (n : List UInt8) (k : Nat) : -1 ≤ atN fs n k ∧ atN fs n k < (k : Int) := by
  induction k with
  | zero => simp [atN]
  | succ k ih =>
    rw [atN]
    split <;> omega
/-- has one of the first k fields the name? -/
def hasN (fs : List FR) (n : List UInt8) (k : Nat) : Bool := (fs.take k).any fun f => decide (f.name = n)
theorem hasN_step (fs : List FR) (n : List UInt8) (k : Nat) (f : FR) (h : fs[k]? = some f) : hasN fs n (k + 1) = (hasN fs n k || decide (f.name = n)) := by
  obtain ⟨h1, h2⟩ := List.getElem?_eq_some_iff.1 h
  unfold hasN
  rw [List.take_succ_eq_append_getElem h1, h2]
  simp
theorem hasN_at (fs : List FR) (n : List UInt8) (k : Nat) (hk : k ≤ fs.length) : hasN fs n k = decide (0 ≤ atN fs n k) := by
  induction k with
  | zero => simp [hasN, atN]
  | succ k ih =>
    have hf : fs[k]? = some fs[k] := List.getElem?_eq_getElem (by omega)
    rw [hasN_step fs n k _ hf, atN_step fs n k _ hf, ih (by omega)]
    by_cases h : fs[k].name = n
    · simp [h]
    · simp [h]
theorem atN_name (fs : List FR) (n : List UInt8) (k j : Nat) (hk : k ≤ fs.length) (h : atN fs n k = (j : Int)) : (fs[j]?.map FR.name) = some n := by
  induction k with
  | zero => simp [atN] at h <;> omega
  | succ k ih =>
    rw [atN] at h
    split at h
    · rename_i hn
      obtain rfl : k = j := by omega
      exact hn
    · exact ih (by omega) h
def setN (g : List UInt8 → Nat) (n : List UInt8) (x : Nat) (m : List UInt8) : Nat := if m = n then x else g m
theorem map_setN (fs : List FR) (hd : (fs.map FR.name).Nodup) (g : List UInt8 → Nat) (n : List UInt8) (x : Nat) (j : Nat) (h : (fs[j]?.map FR.name) = some n) :
    fs.map (fun f => setN g n x f.name) = (fs.map (fun f => g f.name)).set j x := by
  refine List.ext_getElem? fun i => ?_
  rw [List.getElem?_map, List.getElem?_set]
  obtain ⟨f, hf, hfn⟩ := Option.map_eq_some_iff.1 h
  obtain ⟨hj, hj2⟩ := List.getElem?_eq_some_iff.1 hf
  by_cases hij : j = i
  · subst hij
    rw [if_pos rfl, if_pos (by simpa using hj), hf]
    simp [setN, hfn]
  · rw [if_neg hij, List.getElem?_map]
    cases hi : fs[i]? with
    | none => rfl
    | some f2 =>
      obtain ⟨hi1, hi2⟩ := List.getElem?_eq_some_iff.1 hi
      have hne : f2.name ≠ n := by
        intro e
        apply hij
        have h1 : (fs.map FR.name)[j]'(by simpa using hj) = n := by simp [hj2, hfn]
        have h2 : (fs.map FR.name)[i]'(by simpa using hi1) = n := by simp [hi2, e]
        exact (List.getElem_inj hd).1 (h1.trans h2.symm)
      simp [setN, hne]
theorem names_fine : headRows.all (fun r => decide ((r.fields.map FR.name).Nodup)) = true := by decide +kernel
theorem names_nodup (r : HR) (h : r ∈ headRows) : (r.fields.map FR.name).Nodup := by
  simpa using List.all_eq_true.1 names_fine r h
/-- the names told one by one: an error, or what each name has -/
def mkG (fs : List FR) (vs : List Nat) : List (List UInt8) → Nat → (List UInt8 → Nat) → Nat × List Nat
  | [], _, g => (0, fs.map fun f => g f.name)
  | n :: ns, i, g => if hasN fs n fs.length = false then (5, []) else match vs[i]? with
    | none => (7, [])
    | some x => mkG fs vs ns (i + 1) (setN g n x)
/-- what making a head tells -/
def makeH (op flags : Int) (ns : List (List UInt8)) (vs : List Nat) : Nat × Int × List Nat :=
  match findH op with
  | none => (1, -1, [])
  | some r => if (mkG r.fields vs ns 0 fun _ => 0).1 ≠ 0 then ((mkG r.fields vs ns 0 fun _ => 0).1, -1, [])
    else if (rightH op false flags (mkG r.fields vs ns 0 fun _ => 0).2).1 ≠ 0 then ((rightH op false flags (mkG r.fields vs ns 0 fun _ => 0).2).1, (rightH op false flags (mkG r.fields vs ns 0 fun _ => 0).2).2, [])
    else (0, -1, (mkG r.fields vs ns 0 fun _ => 0).2)
theorem mkG_drop (fs : List FR) (vs : List Nat) (ns : List (List UInt8)) (i : Nat) (g : List UInt8 → Nat) (n : List UInt8) (h : ns[i]? = some n) :
    mkG fs vs (ns.drop i) i g = if hasN fs n fs.length = false then (5, []) else match vs[i]? with
      | none => (7, [])
      | some x => mkG fs vs (ns.drop (i + 1)) (i + 1) (setN g n x) := by
  obtain ⟨h1, h2⟩ := List.getElem?_eq_some_iff.1 h
  rw [List.drop_eq_getElem_cons h1, h2, mkG]
theorem mkG_end (fs : List FR) (vs : List Nat) (ns : List (List UInt8)) (i : Nat) (g : List UInt8 → Nat) (h : ns.length ≤ i) : mkG fs vs (ns.drop i) i g = (0, fs.map fun f => g f.name) := by
  rw [List.drop_eq_nil_of_le h, mkG]
end Go.Proofs.YtmdnkmeekfkkhaaGreatDoor
