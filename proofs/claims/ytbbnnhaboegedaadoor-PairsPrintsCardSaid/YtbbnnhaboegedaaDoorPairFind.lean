/- The first pair of a key: by the program and by the document. -/
import Derived.Test.YtbbnnhaboegedaaDoorPairIn
import Derived.Deep.QuietTactic
import Derived.BigQuiet
namespace Go.Proofs.YtbbnnhaboegedaaDoor
open Go.RowKit
set_option linter.unusedVariables false
set_option maxRecDepth 100000
def findP : PL → List UInt8 → List UInt8 × Bool
  | [], _ => ([], false)
  | p :: l, key => if p.1 = key then (p.2, true) else findP l key
theorem findP_drop (l : PL) (key : List UInt8) (k : Nat) (h : k < l.length) : findP (l.drop k) key = if (l.getD k ([], [])).1 = key then ((l.getD k ([], [])).2, true) else findP (l.drop (k + 1)) key := by
  rw [drop_cons l k ([], []) h, findP]
def PFindPost (l : PL) (key : List UInt8) (w : World) (e : Ending) (w' : World) : Prop := e = .returned (.tuple #[.string (bs (findP l key).1), .bool (findP l key).2]) ∧ Below w.heap.size w w'
def RPFind (l : PL) (key : List UInt8) (w : World) (i : Value) (wr : World) : Prop :=
  ∃ k : Nat, k ≤ l.length ∧ i = .int .i64 (k : Nat) ∧ findP l key = findP (l.drop k) key ∧ Below w.heap.size w wr
set_option maxHeartbeats 4000000 in
theorem find_any (v : Value) (l : PL) (key : List UInt8) (w : World) (h : PSl w v l) (hn : l.length ≤ 9223372036854775807) :
    Calls Tryd.prog 14 #[v, .string (bs key)] w fun e w' => PFindPost l key w e w' := by
  rcases h.open_ with ⟨rfl, a, c, rfl⟩ | ⟨h0, b, o, c, rfl, hbl, hcell⟩
  · clear h
    go_enter Tryd.func14, Tryd.ntmps14
    go_wp2
    refine wp_loop_rounds 1 ?_
    rw [rounds_succ]
    go_wp2
    go_ret2
    exact ⟨rfl, Below.refl _ _⟩
  clear h
  have Hcell := hid hcell; clear hcell
  go_enter Tryd.func14, Tryd.ntmps14
  go_wp2
  go_loopw [10] (fun i wr => RPFind l key w i wr) (fun i _ => l.length - (intOf i).toNat)
  case atStart => exact ⟨0, by omega, rfl, rfl, Below.refl _ _⟩
  case round =>
    obtain ⟨k, hk, rfl, heq, hb⟩ := hrel
    have hB := hb.size
    by_cases hlt : k < l.length
    · obtain ⟨c0, c1⟩ := Hcell.out k hlt
      have g0 := (hb.cell (p := ⟨b, o + k * 2, none⟩) hbl).trans c0
      have g1 := (hb.cell (p := ⟨b, o + k * 2 + 1, none⟩) hbl).trans c1
      rw [findP_drop l key k hlt] at heq
      clear c0 c1
      generalize l.getD k ([], []) = x at *
      obtain ⟨x1, x2⟩ := x
      simp only at *
      by_cases hkey : x1 = key
      · rw [if_pos hkey] at heq
        subst hkey
        have Heq := hid heq; clear heq
        go_wp2
        go_ret2
        exact ⟨by rw [Heq.out]; rfl, hb.alloc hB _⟩
      · rw [if_neg hkey] at heq
        have hbe : (x1 == key) = false := by simpa using hkey
        have Heq := hid heq; clear heq
        go_wp2
        go_roundw
        case rel => exact ⟨k + 1, by omega, by go_num, Heq.out, hb.alloc hB _⟩
        case measure => simp [intOf]; omega
    · obtain rfl : k = l.length := by omega
      go_wp2
      go_ret2
      refine ⟨?_, hb⟩
      rw [heq, List.drop_length]; rfl
set_option maxHeartbeats 4000000 in
theorem rfind_any (v : Value) (l : PL) (key : List UInt8) (w : World) (h : PSl w v l) (hn : l.length ≤ 9223372036854775807) :
    Calls Tryd.prog 13 #[v, .string (bs key)] w fun e w' => PFindPost l key w e w' := by
  rcases h.open_ with ⟨rfl, a, c, rfl⟩ | ⟨h0, b, o, c, rfl, hbl, hcell⟩
  · clear h
    go_enter Tryd.func13, Tryd.ntmps13
    go_wp2
    refine wp_loop_rounds 1 ?_
    rw [rounds_succ]
    go_wp2
    go_ret2
    exact ⟨rfl, Below.refl _ _⟩
  clear h
  have Hcell := hid hcell; clear hcell
  go_enter Tryd.func13, Tryd.ntmps13
  go_wp2
  go_loopw [9] (fun i wr => RPFind l key w i wr) (fun i _ => l.length - (intOf i).toNat)
  case atStart => exact ⟨0, by omega, rfl, rfl, Below.refl _ _⟩
  case round =>
    obtain ⟨k, hk, rfl, heq, hb⟩ := hrel
    have hB := hb.size
    by_cases hlt : k < l.length
    · obtain ⟨c0, c1⟩ := Hcell.out k hlt
      have g0 := (hb.cell (p := ⟨b, o + k * 2, none⟩) hbl).trans c0
      have g1 := (hb.cell (p := ⟨b, o + k * 2 + 1, none⟩) hbl).trans c1
      rw [findP_drop l key k hlt] at heq
      clear c0 c1
      generalize l.getD k ([], []) = x at *
      obtain ⟨x1, x2⟩ := x
      simp only at *
      by_cases hkey : x1 = key
      · rw [if_pos hkey] at heq
        subst hkey
        have Heq := hid heq; clear heq
        go_wp2
        go_ret2
        exact ⟨by rw [Heq.out]; rfl, hb⟩
      · rw [if_neg hkey] at heq
        have hbe : (x1 == key) = false := by simpa using hkey
        have Heq := hid heq; clear heq
        go_wp2
        go_roundw
        case rel => exact ⟨k + 1, by omega, by go_num, Heq.out, hb⟩
        case measure => simp [intOf]; omega
    · obtain rfl : k = l.length := by omega
      go_wp2
      go_ret2
      refine ⟨?_, hb⟩
      rw [heq, List.drop_length]; rfl
end Go.Proofs.YtbbnnhaboegedaaDoor
