/- A PDU as bytes: plain laws. -/
import Derived.Test.YtejbigoacknfoaaGreatDoorHeadWrPure
import Derived.Test.YtejbigoacknfoaaGreatDoorAhsW
import Derived.Test.YtejbigoacknfoaaGreatDoorAhsWr
import Derived.Test.YtejbigoacknfoaaGreatDoorCrc
set_option linter.unusedSectionVars false
set_option linter.unusedSimpArgs false
set_option linter.unusedVariables false
namespace Go.Proofs.YtejbigoacknfoaaGreatDoor
open Go Go.RowKit
set_option linter.unusedVariables false
theorem padded_len (l : List UInt8) : (padded l).length = l.length + padN l.length := by simp [padded]
theorem padded_nil (l : List UInt8) : padded l = [] ↔ l = [] := by
  unfold padded
  constructor
  · intro h
    exact (List.append_eq_nil_iff.1 h).1
  · rintro rfl; rfl
theorem ahsB_len (I : Nat → Int × List UInt8) (r i : Nat) (out : List UInt8) (h : (ahsW I r i out.length).1 = 0) (h0 : out.length ≤ 1020) : (ahsB I r i out).length ≤ 1020 := by
  induction r generalizing i out with
  | zero => exact h0
  | succ r ih =>
    rw [ahsW] at h
    split at h
    · cases h
    · split at h
      · cases h
      · rename_i hn
        rw [ahsB]
        have e : (out ++ padded (be (I i).2.length 2 ++ [UInt8.ofNat (I i).1.toNat] ++ (I i).2)).length = out.length + (3 + (I i).2.length + padN (3 + (I i).2.length)) := by
          rw [List.length_append, padded_len]
          have e2 : (be (I i).2.length 2 ++ [UInt8.ofNat (I i).1.toNat] ++ (I i).2).length = 3 + (I i).2.length := by
            simp [be_length]; omega
          rw [e2]
        refine ih (i + 1) _ (by rw [e]; exact h) (by rw [e]; omega)
/-- what is wrong with a PDU -/
def pduE (op : Int) (now : Bool) (flags : Int) (vs : List Nat) (n : Nat) (I : Nat → Int × List UInt8) (d : List UInt8) : Nat :=
  if (rightH op now flags vs).1 ≠ 0 then (rightH op now flags vs).1 else if (ahsW I n 0 0).1 ≠ 0 then (ahsW I n 0 0).1 else if 100000 < d.length then 4 else 0
def digL (l : List UInt8) : List UInt8 := dig (crcS (bs l))
/-- a PDU as bytes -/
def pduB (op : Int) (now : Bool) (flags : Int) (vs : List Nat) (n : Nat) (I : Nat → Int × List UInt8) (d : List UInt8) (h1 h2 : Bool) : List UInt8 :=
  let s := (writeH op now flags vs (((ahsB I n 0 []).length / 4 : Nat) : Int) (d.length : Nat)).1 ++ ahsB I n 0 []
  let s := if h1 then s ++ digL s else s
  let s := s ++ padded d
  if h2 && !(d == []) then s ++ digL (padded d) else s
def pduW (op : Int) (now : Bool) (flags : Int) (vs : List Nat) (n : Nat) (I : Nat → Int × List UInt8) (d : List UInt8) (mode : Int) : List UInt8 × Nat :=
  if mode < 0 ∨ 3 < mode then ([], 1) else if pduE op now flags vs n I d ≠ 0 then ([], pduE op now flags vs n I d) else
  (pduB op now flags vs n I d (mode % 2 == 1) (mode / 2 == 1), 0)
theorem pdu_good (op : Int) (now : Bool) (flags : Int) (vs : List Nat) (n : Nat) (I : Nat → Int × List UInt8) (d : List UInt8) (h : pduE op now flags vs n I d = 0) :
    (rightH op now flags vs).1 = 0 ∧ (ahsW I n 0 0).1 = 0 ∧ d.length ≤ 100000 ∧ (ahsB I n 0 []).length ≤ 1020 ∧ (writeH op now flags vs (((ahsB I n 0 []).length / 4 : Nat) : Int) (d.length : Nat)).2 = (0, -1) ∧
      (writeH op now flags vs (((ahsB I n 0 []).length / 4 : Nat) : Int) (d.length : Nat)).1.length = 48 := by
  unfold pduE at h
  split at h
  · rename_i h1; exact absurd h h1
  rename_i h1
  split at h
  · rename_i h2; exact absurd h h2
  rename_i h2
  split at h
  · cases h
  rename_i h3
  have h1 : (rightH op now flags vs).1 = 0 := by omega
  have h2 : (ahsW I n 0 0).1 = 0 := by omega
  have hl := ahsB_len I n 0 [] h2 (by simp)
  obtain ⟨r, F⟩ := right_fit op now flags vs h1
  have hw : writeH op now flags vs (((ahsB I n 0 []).length / 4 : Nat) : Int) (d.length : Nat) = (writeF r.fields vs (head48 op now flags (((ahsB I n 0 []).length / 4 : Nat) : Int) (d.length : Nat)), 0, -1) := by
    unfold writeH
    rw [if_neg (by omega), if_neg (by omega), F.find]; rfl
  refine ⟨h1, h2, by omega, hl, by rw [hw], ?_⟩
  rw [hw]
  have hwl : ∀ (fs : List FR) (xs : List Nat) (L : List UInt8), L.length = 48 → (∀ f ∈ fs, f.at_ + f.size ≤ 48) → (writeF fs xs L).length = 48 := by
    intro fs
    induction fs with
    | nil => intro xs L hL _; cases xs <;> exact hL
    | cons f fs ih =>
      intro xs L hL hf
      cases xs with
      | nil => exact hL
      | cons x xs =>
        rw [writeF]
        refine ih xs _ ?_ (fun g hg => hf g (by simp [hg]))
        rw [putAt_length _ _ _ (by rw [be_length, hL]; exact hf f (by simp)), hL]
  exact hwl _ _ _ (head48_length _ _ _ _ _) fun f hf => ((head_fine r (findH_mem F.find)).2.2.2.2.2.2.2 f hf).2.2.2.2.1
def pduV (op : Int) (now : Bool) (flags : Int) (v a : Value) (d : List UInt8) : Value := .agg #[.int .i64 op, .bool now, .int .i64 flags, v, a, .string (bs d)]
end Go.Proofs.YtejbigoacknfoaaGreatDoor

namespace Go.Proofs.YtejbigoacknfoaaGreatDoor
open Go Go.RowKit
set_option linter.unusedVariables false
/-- what is known of a name -/
def kindN (name : List UInt8) : Option HR := headRows.find? fun r => decide (r.name = name)
theorem find_nodup {α β : Type} [DecidableEq β] (f : α → β) (l : List α) (h : (l.map f).Nodup) (r : α) (hr : r ∈ l) : l.find? (fun x => decide (f x = f r)) = some r := by
  induction l with
  | nil => cases hr
  | cons a l ih =>
    rw [List.map_cons, List.nodup_cons] at h
    rcases List.mem_cons.1 hr with rfl | hm
    · simp
    · have hne : f a ≠ f r := fun e => h.1 (e ▸ List.mem_map_of_mem hm)
      simp only [List.find?_cons, decide_eq_false hne]
      exact ih h.2 hm
theorem kind_names : (headRows.map HR.name).Nodup := by decide +kernel
theorem kind_ops : (headRows.map fun r => (r.op : Int)).Nodup := by decide +kernel
theorem kindN_row (r : HR) (h : r ∈ headRows) : kindN r.name = some r := find_nodup HR.name headRows kind_names r h
theorem findH_row (r : HR) (h : r ∈ headRows) : findH (r.op : Int) = some r := find_nodup (fun r : HR => (r.op : Int)) headRows kind_ops r h
theorem kindN_hit {name : List UInt8} {k : Int} {r : HR} (h : findH k = some r) (hn : r.name = name) : kindN name = some r := hn ▸ kindN_row r (List.mem_of_find?_eq_some h)
theorem findH_op {k : Int} {r : HR} (h : findH k = some r) : (r.op : Int) = k := by
  have := List.find?_some h
  simpa using this
theorem kindN_none {name : List UInt8} (h : ∀ k : Nat, k < 64 → ∀ r, findH (k : Int) = some r → r.name ≠ name) : kindN name = none := by
  refine List.find?_eq_none.2 fun r hr => ?_
  simpa using h r.op (head_fine r hr).2.2.2.2.1 r (findH_row r hr)
/-- the search of the name, told up to the op k -/
def noName (name : List UInt8) (k : Nat) : Prop := ∀ j : Nat, j < k → ∀ r, findH (j : Int) = some r → r.name ≠ name
theorem noName_zero (name : List UInt8) : noName name 0 := fun j h => absurd h (Nat.not_lt_zero j)
theorem noName_step {name : List UInt8} {k : Nat} (h : noName name k) (hk : ∀ r, findH (k : Int) = some r → r.name ≠ name) : noName name (k + 1) := fun j hj r hr => by
  rcases Nat.lt_or_ge j k with h1 | h1
  · exact h j h1 r hr
  · obtain rfl : j = k := by omega
    exact hk r hr
def noAhs : Nat → Int × List UInt8 := fun _ => (0, [])
/-- what making a PDU tells: the bytes, the error, its place -/
def madeP (name : List UInt8) (now : Bool) (flags : Int) (ns : List (List UInt8)) (vs : List Nat) (d : List UInt8) (mode : Int) : List UInt8 × Nat × Int :=
  match kindN name with
  | none => ([], 5, -1)
  | some r => if (makeH (r.op : Int) flags ns vs).1 ≠ 0 then ([], (makeH (r.op : Int) flags ns vs).1, (makeH (r.op : Int) flags ns vs).2.1)
    else ((pduW (r.op : Int) now flags (makeH (r.op : Int) flags ns vs).2.2 0 noAhs d mode).1, (pduW (r.op : Int) now flags (makeH (r.op : Int) flags ns vs).2.2 0 noAhs d mode).2, -1)
theorem mkG_fits (M : Nat) (fs : List FR) (vs : List Nat) (hv : ∀ x ∈ vs, x ≤ M) (ns : List (List UInt8)) (i : Nat) (g : List UInt8 → Nat) (hg : ∀ m, g m ≤ M) : (∀ x ∈ (mkG fs vs ns i g).2, x ≤ M) ∧ (mkG fs vs ns i g).2.length ≤ fs.length := by
  induction ns generalizing i g with
  | nil => simp only [mkG, List.mem_map, List.length_map]; exact ⟨by rintro x ⟨f, _, rfl⟩; exact hg _, Nat.le_refl _⟩
  | cons n ns ih =>
    rw [mkG]
    split
    · simp
    · split
      · simp
      · rename_i x hx
        refine ih _ _ fun m => ?_
        unfold setN
        split
        · exact hv x (List.mem_of_getElem? hx)
        · exact hg m
theorem makeH_fits (op flags : Int) (ns : List (List UInt8)) (vs : List Nat) (hv : ∀ x ∈ vs, x ≤ 18446744073709551615) : (∀ x ∈ (makeH op flags ns vs).2.2, x ≤ 18446744073709551615) ∧ (makeH op flags ns vs).2.2.length ≤ 12 := by
  unfold makeH
  cases hf : findH op with
  | none => simp
  | some r =>
    have h12 := (head_fine r (List.mem_of_find?_eq_some hf)).2.2.2.2.2.2.1
    obtain ⟨h1, h2⟩ := mkG_fits 18446744073709551615 r.fields vs hv ns 0 (fun _ => 0) (fun _ => by simp)
    simp only
    split
    · simp
    · split
      · simp
      · exact ⟨h1, Nat.le_trans h2 (by omega)⟩
end Go.Proofs.YtejbigoacknfoaaGreatDoor
