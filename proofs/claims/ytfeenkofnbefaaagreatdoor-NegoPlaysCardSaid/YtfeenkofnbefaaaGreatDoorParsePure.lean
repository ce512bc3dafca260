/- The first pair of a key: by the program and by the document. -/
import Derived.Test.YtfeenkofnbefaaaGreatDoorPairIn
import Derived.Deep.QuietTactic
import Derived.BigQuiet
import Derived.Lib.Bytealg
import Derived.Lib.Fields
import Derived.Lib.Atoi
import Derived.Test.YtfeenkofnbefaaaGreatDoorBase
set_option linter.unusedSectionVars false
set_option linter.unusedSimpArgs false
set_option linter.unusedVariables false
namespace Go.Proofs.YtfeenkofnbefaaaGreatDoor
open Go.RowKit
set_option linter.unusedVariables false
set_option maxRecDepth 100000
def findP : PL → List UInt8 → List UInt8 × Bool
  | [], _ => ([], false)
  | p :: l, key => if p.1 = key then (p.2, true) else findP l key
theorem findP_drop (l : PL) (key : List UInt8) (k : Nat) (h : k < l.length) : findP (l.drop k) key = if (l.getD k ([], [])).1 = key then ((l.getD k ([], [])).2, true) else findP (l.drop (k + 1)) key := by
  rw [drop_cons l k ([], []) h, findP]
def PFindPost (l : PL) (key : List UInt8) (w : World) (e : Ending) (w' : World) : Prop := e = .returned (.tuple #[.string (bs (findP l key).1), .bool (findP l key).2]) ∧ Below w.heap.size w w'
def RPFind (l : PL) (key : List UInt8) (w : World) (i : Value) (wr : World) : Prop :=
  ∃ k : Nat, k ≤ l.length ∧ i = .int .i64 (k : Nat) ∧ findP l key = findP (l.drop k) key ∧ Below w.heap.size w wr
set_option maxHeartbeats 4000000 in
theorem find_any (v : Value) (l : PL) (key : List UInt8) (w : World) (h : PSl w v l) (hn : l.length ≤ 9223372036854775807) :
    Calls Tryz.prog 62 #[v, .string (bs key)] w fun e w' => PFindPost l key w e w' := by
  rcases h.open_ with ⟨rfl, a, c, rfl⟩ | ⟨h0, b, o, c, rfl, hbl, hcell⟩
  · clear h
    go_enter Tryz.func62, Tryz.ntmps62
    go_wp2
    refine wp_loop_rounds 1 ?_
    rw [rounds_succ]
    go_wp2
    go_ret2
    exact ⟨rfl, Below.refl _ _⟩
  clear h
  have Hcell := hid hcell; clear hcell
  go_enter Tryz.func62, Tryz.ntmps62
  go_wp2
  go_loopw [10] (fun i wr => RPFind l key w i wr) (fun i _ => l.length - (intOf i).toNat)
  case atStart => exact ⟨0, by omega, rfl, rfl, Below.refl _ _⟩
  case round =>
    obtain ⟨k, hk, rfl, heq, hb⟩ := hrel
    have hB := hb.size
    by_cases hlt : k < l.length
    · obtain ⟨c0, c1⟩ := Hcell.out k hlt
      have g0 := (hb.cell (p := ⟨b, o + k * 2, none⟩) hbl).trans c0
      have g1 := (hb.cell (p := ⟨b, o + k * 2 + 1, none⟩) hbl).trans c1
      rw [findP_drop l key k hlt] at heq
      clear c0 c1
      generalize l.getD k ([], []) = x at *
      obtain ⟨x1, x2⟩ := x
      simp only at *
      by_cases hkey : x1 = key
      · rw [if_pos hkey] at heq
        subst hkey
        have Heq := hid heq; clear heq
        go_wp2
        go_ret2
        exact ⟨by rw [Heq.out]; rfl, hb.alloc hB _⟩
      · rw [if_neg hkey] at heq
        have hbe : (x1 == key) = false := by simpa using hkey
        have Heq := hid heq; clear heq
        go_wp2
        go_roundw
        case rel => exact ⟨k + 1, by omega, by go_num, Heq.out, hb.alloc hB _⟩
        case measure => simp [intOf]; omega
    · obtain rfl : k = l.length := by omega
      go_wp2
      go_ret2
      refine ⟨?_, hb⟩
      rw [heq, List.drop_length]; rfl
set_option maxHeartbeats 4000000 in
theorem rfind_any (v : Value) (l : PL) (key : List UInt8) (w : World) (h : PSl w v l) (hn : l.length ≤ 9223372036854775807) :
    Calls Tryz.prog 101 #[v, .string (bs key)] w fun e w' => PFindPost l key w e w' := by
  rcases h.open_ with ⟨rfl, a, c, rfl⟩ | ⟨h0, b, o, c, rfl, hbl, hcell⟩
  · clear h
    go_enter Tryz.func101, Tryz.ntmps101
    go_wp2
    refine wp_loop_rounds 1 ?_
    rw [rounds_succ]
    go_wp2
    go_ret2
    exact ⟨rfl, Below.refl _ _⟩
  clear h
  have Hcell := hid hcell; clear hcell
  go_enter Tryz.func101, Tryz.ntmps101
  go_wp2
  go_loopw [9] (fun i wr => RPFind l key w i wr) (fun i _ => l.length - (intOf i).toNat)
  case atStart => exact ⟨0, by omega, rfl, rfl, Below.refl _ _⟩
  case round =>
    obtain ⟨k, hk, rfl, heq, hb⟩ := hrel
    have hB := hb.size
    by_cases hlt : k < l.length
    · obtain ⟨c0, c1⟩ := Hcell.out k hlt
      have g0 := (hb.cell (p := ⟨b, o + k * 2, none⟩) hbl).trans c0
      have g1 := (hb.cell (p := ⟨b, o + k * 2 + 1, none⟩) hbl).trans c1
      rw [findP_drop l key k hlt] at heq
      clear c0 c1
      generalize l.getD k ([], []) = x at *
      obtain ⟨x1, x2⟩ := x
      simp only at *
      by_cases hkey : x1 = key
      · rw [if_pos hkey] at heq
        subst hkey
        have Heq := hid heq; clear heq
        go_wp2
        go_ret2
        exact ⟨by rw [Heq.out]; rfl, hb⟩
      · rw [if_neg hkey] at heq
        have hbe : (x1 == key) = false := by simpa using hkey
        have Heq := hid heq; clear heq
        go_wp2
        go_roundw
        case rel => exact ⟨k + 1, by omega, by go_num, Heq.out, hb⟩
        case measure => simp [intOf]; omega
    · obtain rfl : k = l.length := by omega
      go_wp2
      go_ret2
      refine ⟨?_, hb⟩
      rw [heq, List.drop_length]; rfl
end Go.Proofs.YtfeenkofnbefaaaGreatDoor

namespace Go.Proofs.YtfeenkofnbefaaaGreatDoor
open Go
/-- the pieces of a text between bytes -/
def splitL (c : UInt8) : List UInt8 → List (List UInt8)
  | [] => [[]]
  | b :: l => if b = c then [] :: splitL c l else match splitL c l with | [] => [[b]] | p :: ps => (b :: p) :: ps
theorem splitL_ne (c : UInt8) (l : List UInt8) : splitL c l ≠ [] := by
  cases l with
  | nil => simp [splitL]
  | cons b l =>
    rw [splitL]
    split
    · simp
    · split <;> simp
theorem splitL_none (c : UInt8) (l : List UInt8) (h : c ∉ l) : splitL c l = [l] := by
  induction l with
  | nil => rfl
  | cons b l ih =>
    have hb : ¬ b = c := fun e => h (by simp [e])
    have hl : c ∉ l := fun e => h (by simp [e])
    rw [splitL, if_neg hb, ih hl]
theorem splitL_cons (c : UInt8) (p l : List UInt8) (h : c ∉ p) : splitL c (p ++ c :: l) = p :: splitL c l := by
  induction p with
  | nil => simp [splitL]
  | cons b p ih =>
    have hb : ¬ b = c := fun e => h (by simp [e])
    have hl : c ∉ p := fun e => h (by simp [e])
    rw [List.cons_append, splitL, if_neg hb, ih hl]
theorem idx_cases (l : List UInt8) (c : UInt8) : (Lib.indexByte l c = -1 ∧ c ∉ l) ∨ ∃ (i : Nat), Lib.indexByte l c = (i : Int) ∧ i < l.length ∧ l = l.take i ++ c :: l.drop (i + 1) ∧ c ∉ l.take i := by
  induction l with
  | nil => left; exact ⟨rfl, by simp⟩
  | cons b l ih =>
    rw [Lib.indexByte]
    by_cases hb : b = c
    · right
      subst hb
      exact ⟨0, by simp, by simp, by simp, by simp⟩
    · have hb' : (b == c) = false := by simpa using hb
      rcases ih with ⟨h1, h2⟩ | ⟨i, h1, h2, h3, h4⟩
      · left
        rw [hb', h1]
        refine ⟨by simp, ?_⟩
        simp only [List.mem_cons, not_or]
        exact ⟨fun e => hb e.symm, h2⟩
      · right
        rw [hb', h1]
        have hne : ((i : Int) == -1) = false := by rw [beq_eq_false_iff_ne]; omega
        refine ⟨i + 1, by rw [hne]; simp, by simp; omega, ?_, ?_⟩
        · simp only [List.take_succ_cons, List.drop_succ_cons, List.cons_append]; rw [← h3]
        · simp only [List.take_succ_cons, List.mem_cons, not_or]; exact ⟨fun e => hb e.symm, h4⟩
theorem splitL_idx (c : UInt8) (l : List UInt8) (i : Nat) (h3 : l = l.take i ++ c :: l.drop (i + 1)) (h4 : c ∉ l.take i) : splitL c l = l.take i :: splitL c (l.drop (i + 1)) := by
  have := splitL_cons c (l.take i) (l.drop (i + 1)) h4
  rwa [← h3] at this
theorem count_idx (c : UInt8) (l : List UInt8) (i : Nat) (h3 : l = l.take i ++ c :: l.drop (i + 1)) (h4 : c ∉ l.take i) : l.count c = (l.drop (i + 1)).count c + 1 := by
  have h : l.count c = (l.take i ++ c :: l.drop (i + 1)).count c := congrArg _ h3
  rw [h, List.count_append, List.count_eq_zero_of_not_mem h4, List.count_cons_self]; omega
theorem splitL_length (c : UInt8) (l : List UInt8) : (splitL c l).length = l.count c + 1 := by
  induction l with
  | nil => rfl
  | cons b l ih =>
    rw [splitL]
    by_cases hb : b = c
    · subst hb; rw [if_pos rfl, List.length_cons, ih, List.count_cons_self]
    · rw [if_neg hb, List.count_cons_of_ne hb, ← ih]
      have := splitL_ne c l
      split
      · rename_i h; exact absurd h this
      · rename_i h; rw [h]; simp
/-- cut at the first byte c: ahead, behind, whether there is one -/
def cutL (c : UInt8) : List UInt8 → List UInt8 × List UInt8 × Bool
  | [] => ([], [], false)
  | b :: l => if b = c then ([], l, true) else (b :: (cutL c l).1, (cutL c l).2)
theorem cutL_none (c : UInt8) (l : List UInt8) (h : c ∉ l) : cutL c l = (l, [], false) := by
  induction l with
  | nil => rfl
  | cons b l ih =>
    have hb : ¬ b = c := fun e => h (by simp [e])
    rw [cutL, if_neg hb, ih (fun e => h (by simp [e]))]
theorem cutL_cons (c : UInt8) (p l : List UInt8) (h : c ∉ p) : cutL c (p ++ c :: l) = (p, l, true) := by
  induction p with
  | nil => simp [cutL]
  | cons b p ih =>
    have hb : ¬ b = c := fun e => h (by simp [e])
    rw [List.cons_append, cutL, if_neg hb, ih (fun e => h (by simp [e]))]
theorem cutL_idx (c : UInt8) (l : List UInt8) (i : Nat) (h3 : l = l.take i ++ c :: l.drop (i + 1)) (h4 : c ∉ l.take i) : cutL c l = (l.take i, l.drop (i + 1), true) := by
  have := cutL_cons c (l.take i) (l.drop (i + 1)) h4
  rwa [← h3] at this
theorem cutL_split (c : UInt8) (l : List UInt8) : splitL c l = if (cutL c l).2.2 then (cutL c l).1 :: splitL c (cutL c l).2.1 else [l] := by
  rcases idx_cases l c with ⟨_, h⟩ | ⟨i, _, _, h3, h4⟩
  · rw [cutL_none c l h, splitL_none c l h]; rfl
  · rw [cutL_idx c l i h3 h4, splitL_idx c l i h3 h4]; rfl
theorem cutL_length (c : UInt8) (l : List UInt8) : (cutL c l).2.2 = true → (cutL c l).1.length + (cutL c l).2.1.length + 1 = l.length := by
  rcases idx_cases l c with ⟨_, h⟩ | ⟨i, _, hi, h3, h4⟩
  · rw [cutL_none c l h]; intro h; cases h
  · rw [cutL_idx c l i h3 h4]; intro _; simp; omega
/-- cells of texts -/
def sArr (l : List (List UInt8)) : Array Value := (l.map fun x => Value.string ⟨x.toArray⟩).toArray
theorem sArr_size (l : List (List UInt8)) : (sArr l).size = l.length := by simp [sArr]
theorem sArr_get (l : List (List UInt8)) (i : Nat) (h : i < l.length) : (sArr l)[i]? = some (.string ⟨l[i].toArray⟩) := by simp [sArr, h]
theorem sArr_set (ds : List (List UInt8)) (m : Nat) (x : List UInt8) : (sArr (ds ++ List.replicate (m + 1) [])).setIfInBounds ds.length (.string ⟨x.toArray⟩) = sArr ((ds ++ [x]) ++ List.replicate m []) := by
  simp [sArr, List.replicate_succ]
end Go.Proofs.YtfeenkofnbefaaaGreatDoor

namespace Go.Proofs.YtfeenkofnbefaaaGreatDoor
open Go
set_option maxRecDepth 100000
/-- a row of seven words: a key's name, its kind, from where, to where, its default, two letters -/
structure KR where
  name : List UInt8
  lk : List UInt8
  ll : List UInt8
  lh : List UInt8
  dflt : List UInt8
  no : List UInt8
  lo : List UInt8
def KR.words (k : KR) : List (List UInt8) := [k.name, k.lk, k.ll, k.lh, k.dflt, k.no, k.lo]
def KR.text (k : KR) : List UInt8 := k.name ++ 32 :: k.lk ++ 32 :: k.ll ++ 32 :: k.lh ++ 32 :: k.dflt ++ 32 :: k.no ++ 32 :: k.lo
def dnum (l : List UInt8) : Nat := ((Lib.atoi l).getD 0).toNat
def KR.dv (k : KR) : List UInt8 := if k.dflt = [45] then [] else k.dflt
def keyRows : List KR := [
  ⟨[72, 101, 97, 100, 101, 114, 68, 105, 103, 101, 115, 116], [53], [48], [48], [78, 111, 110, 101], [45], [76]⟩,
  ⟨[68, 97, 116, 97, 68, 105, 103, 101, 115, 116], [53], [48], [48], [78, 111, 110, 101], [45], [76]⟩,
  ⟨[77, 97, 120, 67, 111, 110, 110, 101, 99, 116, 105, 111, 110, 115], [51], [49], [54, 53, 53, 51, 53], [49], [78], [76]⟩,
  ⟨[69, 114, 114, 111, 114, 82, 101, 99, 111, 118, 101, 114, 121, 76, 101, 118, 101, 108], [51], [48], [50], [48], [45], [76]⟩,
  ⟨[73, 110, 105, 116, 105, 97, 108, 82, 50, 84], [50], [48], [48], [89, 101, 115], [78], [76]⟩,
  ⟨[73, 109, 109, 101, 100, 105, 97, 116, 101, 68, 97, 116, 97], [49], [48], [48], [89, 101, 115], [78], [76]⟩,
  ⟨[77, 97, 120, 82, 101, 99, 118, 68, 97, 116, 97, 83, 101, 103, 109, 101, 110, 116, 76, 101, 110, 103, 116, 104], [55], [53, 49, 50], [49, 54, 55, 55, 55, 50, 49, 53], [56, 49, 57, 50], [45], [45]⟩,
  ⟨[77, 97, 120, 66, 117, 114, 115, 116, 76, 101, 110, 103, 116, 104], [51], [53, 49, 50], [49, 54, 55, 55, 55, 50, 49, 53], [50, 54, 50, 49, 52, 52], [78], [76]⟩,
  ⟨[70, 105, 114, 115, 116, 66, 117, 114, 115, 116, 76, 101, 110, 103, 116, 104], [51], [53, 49, 50], [49, 54, 55, 55, 55, 50, 49, 53], [54, 53, 53, 51, 54], [78], [76]⟩,
  ⟨[68, 101, 102, 97, 117, 108, 116, 84, 105, 109, 101, 50, 87, 97, 105, 116], [52], [48], [51, 54, 48, 48], [50], [45], [76]⟩,
  ⟨[68, 101, 102, 97, 117, 108, 116, 84, 105, 109, 101, 50, 82, 101, 116, 97, 105, 110], [51], [48], [51, 54, 48, 48], [50, 48], [45], [76]⟩,
  ⟨[77, 97, 120, 79, 117, 116, 115, 116, 97, 110, 100, 105, 110, 103, 82, 50, 84], [51], [49], [54, 53, 53, 51, 53], [49], [78], [76]⟩,
  ⟨[68, 97, 116, 97, 80, 68, 85, 73, 110, 79, 114, 100, 101, 114], [50], [48], [48], [89, 101, 115], [78], [76]⟩,
  ⟨[68, 97, 116, 97, 83, 101, 113, 117, 101, 110, 99, 101, 73, 110, 79, 114, 100, 101, 114], [50], [48], [48], [89, 101, 115], [78], [76]⟩,
  ⟨[73, 110, 105, 116, 105, 97, 116, 111, 114, 78, 97, 109, 101], [54], [48], [48], [45], [45], [76]⟩,
  ⟨[73, 110, 105, 116, 105, 97, 116, 111, 114, 65, 108, 105, 97, 115], [54], [48], [48], [45], [45], [45]⟩,
  ⟨[84, 97, 114, 103, 101, 116, 78, 97, 109, 101], [54], [48], [48], [45], [45], [76]⟩,
  ⟨[83, 101, 115, 115, 105, 111, 110, 84, 121, 112, 101], [54], [48], [48], [78, 111, 114, 109, 97, 108], [45], [76]⟩]
def keyText : List UInt8 := [72, 101, 97, 100, 101, 114, 68, 105, 103, 101, 115, 116, 32, 53, 32, 48, 32, 48, 32, 78, 111, 110, 101, 32, 45, 32, 76, 124, 68, 97, 116, 97, 68, 105, 103, 101, 115, 116, 32, 53, 32, 48, 32, 48, 32, 78, 111, 110, 101, 32, 45, 32, 76, 124, 77, 97, 120, 67, 111, 110, 110, 101, 99, 116, 105, 111, 110, 115, 32, 51, 32, 49, 32, 54, 53, 53, 51, 53, 32, 49, 32, 78, 32, 76, 124, 69, 114, 114, 111, 114, 82, 101, 99, 111, 118, 101, 114, 121, 76, 101, 118, 101, 108, 32, 51, 32, 48, 32, 50, 32, 48, 32, 45, 32, 76, 124, 73, 110, 105, 116, 105, 97, 108, 82, 50, 84, 32, 50, 32, 48, 32, 48, 32, 89, 101, 115, 32, 78, 32, 76, 124, 73, 109, 109, 101, 100, 105, 97, 116, 101, 68, 97, 116, 97, 32, 49, 32, 48, 32, 48, 32, 89, 101, 115, 32, 78, 32, 76, 124, 77, 97, 120, 82, 101, 99, 118, 68, 97, 116, 97, 83, 101, 103, 109, 101, 110, 116, 76, 101, 110, 103, 116, 104, 32, 55, 32, 53, 49, 50, 32, 49, 54, 55, 55, 55, 50, 49, 53, 32, 56, 49, 57, 50, 32, 45, 32, 45, 124, 77, 97, 120, 66, 117, 114, 115, 116, 76, 101, 110, 103, 116, 104, 32, 51, 32, 53, 49, 50, 32, 49, 54, 55, 55, 55, 50, 49, 53, 32, 50, 54, 50, 49, 52, 52, 32, 78, 32, 76, 124, 70, 105, 114, 115, 116, 66, 117, 114, 115, 116, 76, 101, 110, 103, 116, 104, 32, 51, 32, 53, 49, 50, 32, 49, 54, 55, 55, 55, 50, 49, 53, 32, 54, 53, 53, 51, 54, 32, 78, 32, 76, 124, 68, 101, 102, 97, 117, 108, 116, 84, 105, 109, 101, 50, 87, 97, 105, 116, 32, 52, 32, 48, 32, 51, 54, 48, 48, 32, 50, 32, 45, 32, 76, 124, 68, 101, 102, 97, 117, 108, 116, 84, 105, 109, 101, 50, 82, 101, 116, 97, 105, 110, 32, 51, 32, 48, 32, 51, 54, 48, 48, 32, 50, 48, 32, 45, 32, 76, 124, 77, 97, 120, 79, 117, 116, 115, 116, 97, 110, 100, 105, 110, 103, 82, 50, 84, 32, 51, 32, 49, 32, 54, 53, 53, 51, 53, 32, 49, 32, 78, 32, 76, 124, 68, 97, 116, 97, 80, 68, 85, 73, 110, 79, 114, 100, 101, 114, 32, 50, 32, 48, 32, 48, 32, 89, 101, 115, 32, 78, 32, 76, 124, 68, 97, 116, 97, 83, 101, 113, 117, 101, 110, 99, 101, 73, 110, 79, 114, 100, 101, 114, 32, 50, 32, 48, 32, 48, 32, 89, 101, 115, 32, 78, 32, 76, 124, 73, 110, 105, 116, 105, 97, 116, 111, 114, 78, 97, 109, 101, 32, 54, 32, 48, 32, 48, 32, 45, 32, 45, 32, 76, 124, 73, 110, 105, 116, 105, 97, 116, 111, 114, 65, 108, 105, 97, 115, 32, 54, 32, 48, 32, 48, 32, 45, 32, 45, 32, 45, 124, 84, 97, 114, 103, 101, 116, 78, 97, 109, 101, 32, 54, 32, 48, 32, 48, 32, 45, 32, 45, 32, 76, 124, 83, 101, 115, 115, 105, 111, 110, 84, 121, 112, 101, 32, 54, 32, 48, 32, 48, 32, 78, 111, 114, 109, 97, 108, 32, 45, 32, 76]
theorem splitKeys : splitL 124 keyText = keyRows.map KR.text := by decide +kernel
def KR.fine (k : KR) : Bool :=
  decide (Lib.fields k.text = k.words) && k.text.all (fun b => decide (b.toNat < 128)) && decide (k.text.length < 1000) &&
  decide (Lib.atoi k.lk = some (dnum k.lk : Int)) && decide (Lib.atoi k.ll = some (dnum k.ll : Int)) && decide (Lib.atoi k.lh = some (dnum k.lh : Int)) &&
  decide (k.lk.length ≤ 18) && decide (k.ll.length ≤ 18) && decide (k.lh.length ≤ 18) && decide (splitL 32 k.text = k.words) &&
  decide (dnum k.lk < 8) && decide (dnum k.ll < 16777216) && decide (dnum k.lh < 16777216)
theorem keys_fine : keyRows.all KR.fine = true := by decide +kernel
theorem key_fine (k : KR) (h : k ∈ keyRows) : Lib.fields k.text = k.words ∧ (∀ b ∈ k.text, b.toNat < 128) ∧ k.text.length < 1000 ∧
    Lib.atoi k.lk = some (dnum k.lk : Int) ∧ Lib.atoi k.ll = some (dnum k.ll : Int) ∧ Lib.atoi k.lh = some (dnum k.lh : Int) ∧
    k.lk.length ≤ 18 ∧ k.ll.length ≤ 18 ∧ k.lh.length ≤ 18 ∧ splitL 32 k.text = k.words ∧ dnum k.lk < 8 ∧ dnum k.ll < 16777216 ∧ dnum k.lh < 16777216 := by
  have := List.all_eq_true.1 keys_fine k h
  simpa [KR.fine, and_assoc] using this
/-- what is known of a key -/
def findK (l : List KR) (name : List UInt8) : Option KR := l.find? fun k => k.name == name
end Go.Proofs.YtfeenkofnbefaaaGreatDoor

namespace Go.Proofs.YtfeenkofnbefaaaGreatDoor
open Go Go.RowKit
set_option linter.unusedVariables false
/-- a letter's small one -/
def lowV (c : UInt8) : Nat := c.toNat ||| 32
/-- a digit's value; 255: it is none -/
def digV (c : UInt8) : Nat := if 48 ≤ c.toNat ∧ c.toNat ≤ 57 then c.toNat - 48 else if 97 ≤ lowV c ∧ lowV c ≤ 122 then lowV c - 87 else 255
/-- the number, and what is wrong: 2 a byte that is no digit, 1 too great -/
def puG (base max : Nat) : List UInt8 → Nat → Nat × Nat
  | [], n => (n, 0)
  | c :: l, n => if base ≤ digV c then (0, 2) else if max < n * base + digV c then (max, 1) else puG base max l (n * base + digV c)
def puS (base max : Nat) (l : List UInt8) : Nat × Nat := if l = [] then (0, 2) else puG base max l 0
theorem low_bits : ∀ n : Fin 256, bits .or .u8 ((n.val : Nat) : Int) 32 = ((n.val ||| 32 : Nat) : Int) := by decide +kernel
theorem low_u8 (c : UInt8) : bits .or .u8 (c.toNat : Int) 32 = (lowV c : Nat) := low_bits ⟨c.toNat, c.toNat_lt⟩
theorem low_lt (c : UInt8) : lowV c < 256 := Nat.or_lt_two_pow (n := 8) c.toNat_lt (by omega)
theorem puG_step (base max : Nat) (l : List UInt8) (k n : Nat) (c : UInt8) (h : l[k]? = some c) :
    puG base max (l.drop k) n = if base ≤ digV c then (0, 2) else if max < n * base + digV c then (max, 1) else puG base max (l.drop (k + 1)) (n * base + digV c) := by
  obtain ⟨h1, h2⟩ := List.getElem?_eq_some_iff.1 h
  rw [List.drop_eq_getElem_cons h1, h2, puG]
theorem puG_end (base max : Nat) (l : List UInt8) (k n : Nat) (h : l.length ≤ k) : puG base max (l.drop k) n = (n, 0) := by
  rw [List.drop_eq_nil_of_le h, puG]
theorem puG_le (base max : Nat) (l : List UInt8) (n : Nat) (h : n ≤ max) : (puG base max l n).1 ≤ max := by
  induction l generalizing n with
  | nil => exact h
  | cons c l ih =>
    rw [puG]
    split
    · simp
    · split
      · simp
      · exact ih _ (by omega)
/-- the value of digits of a base -/
def valB (base : Nat) (l : List UInt8) (n : Nat) : Nat := l.foldl (fun n c => n * base + digV c) n
theorem valB_mono (base : Nat) (hb : 1 ≤ base) (l : List UInt8) (n : Nat) : n ≤ valB base l n := by
  induction l generalizing n with
  | nil => exact Nat.le_refl _
  | cons c l ih =>
    refine Nat.le_trans ?_ (ih (n * base + digV c))
    have : n * 1 ≤ n * base := Nat.mul_le_mul_left n hb
    omega
/-- it has a number if all are digits and the value isn't too great -/
theorem puG_all (base max : Nat) (hb : 1 ≤ base) (l : List UInt8) (n : Nat) (hn : n ≤ max) : puG base max l n = (valB base l n, 0) ∧ (l.all fun c => decide (digV c < base)) = true ∧ valB base l n ≤ max ∨
    (puG base max l n).2 ≠ 0 ∧ ((l.all fun c => decide (digV c < base)) = false ∨ max < valB base l n) := by
  induction l generalizing n with
  | nil => exact .inl ⟨rfl, rfl, hn⟩
  | cons c l ih =>
    rw [puG]
    by_cases h1 : base ≤ digV c
    · rw [if_pos h1]
      exact .inr ⟨by simp, .inl (by simp; omega)⟩
    · rw [if_neg h1]
      by_cases h2 : max < n * base + digV c
      · rw [if_pos h2]
        have := valB_mono base hb l (n * base + digV c)
        exact .inr ⟨by simp, .inr (Nat.lt_of_lt_of_le h2 this)⟩
      · rw [if_neg h2]
        have hd : decide (digV c < base) = true := decide_eq_true (by omega)
        rcases ih (n * base + digV c) (by omega) with ⟨h3, h4, h5⟩ | ⟨h3, h4⟩
        · exact .inl ⟨h3, by rw [List.all_cons, hd, h4]; rfl, h5⟩
        · refine .inr ⟨h3, ?_⟩
          rcases h4 with h4 | h4
          · exact .inl (by rw [List.all_cons, hd, h4]; rfl)
          · exact .inr h4
end Go.Proofs.YtfeenkofnbefaaaGreatDoor
