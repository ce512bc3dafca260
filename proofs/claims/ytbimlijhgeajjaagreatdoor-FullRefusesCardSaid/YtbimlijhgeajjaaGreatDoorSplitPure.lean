/- The document's faults: Good, Bare, Is. -/
import Derived.Test.YtbimlijhgeajjaaGreatDoorProg
import Derived.Test.YtbimlijhgeajjaaGreatDoorBase
import Derived.Test.YtbimlijhgeajjaaGreatDoorPairKey
import Derived.Deep.SlicePairs
import Derived.OpenShut
import Derived.Deep.QuietTactic
import Derived.BigQuiet
import Derived.Lib.Bytealg
set_option linter.unusedSectionVars false
set_option linter.unusedSimpArgs false
set_option linter.unusedVariables false
namespace Go.Proofs.YtbimlijhgeajjaaGreatDoor
open Go.RowKit
set_option linter.unusedVariables false
set_option maxRecDepth 100000
/-- a fault by value -/
def faultV (k : Nat) (pl : Int) : Value := .agg #[.int .i64 (k : Nat), .int .i64 pl]
theorem good_any (w : World) :
    Calls Tryz.prog 29 #[] w fun e w' => e = .returned (.agg #[.int .i64 0, .int .i64 (-1)]) ∧ Below w.heap.size w w' := by
  go_enter Tryz.func29, Tryz.ntmps29
  go_wp2
  exact bodyPost_ret (v := .agg #[.int .i64 0, .int .i64 (-1)]) (by simp [results, Tryz.results29, go_sem]) rfl ⟨rfl, (Below.refl _ _).alloc (Nat.le_refl _) _⟩
theorem bareF_any (k : Int) (w : World) :
    Calls Tryz.prog 65 #[.int .i64 k] w fun e w' => e = .returned (.agg #[.int .i64 k, .int .i64 (-1)]) ∧ Below w.heap.size w w' := by
  go_enter Tryz.func65, Tryz.ntmps65
  go_wp2
  exact bodyPost_ret (v := .agg #[.int .i64 k, .int .i64 (-1)]) (by simp [results, Tryz.results65, go_sem]) rfl ⟨rfl, (Below.refl _ _).alloc (Nat.le_refl _) _⟩
end Go.Proofs.YtbimlijhgeajjaaGreatDoor

namespace Go.Proofs.YtbimlijhgeajjaaGreatDoor
open Go.RowKit
set_option linter.unusedVariables false
abbrev PL := List (List UInt8 × List UInt8)
def pairCells (xs : PL) : List Value := xs.flatMap fun x => [.string (bs x.1), .string (bs x.2)]
theorem pairCells_length (xs : PL) : (pairCells xs).length = xs.length * 2 := by
  induction xs with
  | nil => rfl
  | cons x xs ih => simp only [pairCells, List.flatMap_cons, List.length_append, List.length_cons, List.length_nil] at ih ⊢; omega
theorem pairCells_snoc (xs : PL) (x : List UInt8 × List UInt8) : pairCells (xs ++ [x]) = pairCells xs ++ [.string (bs x.1), .string (bs x.2)] := by simp [pairCells]
theorem pairCells_append (xs ys : PL) : pairCells (xs ++ ys) = pairCells xs ++ pairCells ys := by simp [pairCells]
theorem pairCells_drop (xs : PL) (k : Nat) : pairCells (xs.drop k) = (pairCells xs).drop (k * 2) := by
  induction k generalizing xs with
  | zero => simp
  | succ k ih =>
    cases xs with
    | nil => simp [pairCells]
    | cons x xs =>
      have e : pairCells (x :: xs) = .string (bs x.1) :: .string (bs x.2) :: pairCells xs := rfl
      rw [List.drop_succ_cons, ih, e, show (k + 1) * 2 = k * 2 + 1 + 1 by omega, List.drop_succ_cons, List.drop_succ_cons]
theorem pairCells_one (xs : PL) : ∀ u ∈ pairCells xs, u.oneCell' = true := by
  intro u hu
  simp only [pairCells, List.mem_flatMap] at hu
  obtain ⟨x, _, hx⟩ := hu
  simp at hx
  rcases hx with rfl | rfl <;> rfl
theorem pairCells_at (xs : PL) (k : Nat) (h : k < xs.length) : (pairCells xs)[2 * k]? = some (.string (bs (xs.getD k ([], [])).1)) ∧ (pairCells xs)[2 * k + 1]? = some (.string (bs (xs.getD k ([], [])).2)) := by
  induction xs generalizing k with
  | nil => simp at h
  | cons x xs ih =>
    cases k with
    | zero => simp [pairCells]
    | succ k =>
      have := ih k (by simpa using h)
      have e : pairCells (x :: xs) = .string (bs x.1) :: .string (bs x.2) :: pairCells xs := rfl
      rw [e]
      simp only [show 2 * (k + 1) = 2 * k + 1 + 1 by omega, List.getElem?_cons_succ, List.getD_cons_succ]
      exact this
/-- a slice value that reads as pairs of texts -/
def PSl (w : World) (v : Value) (l : PL) : Prop := Sl w v 2 l.length (pairCells l)
theorem PSl.below {w w' : World} {v : Value} {l : PL} (h : PSl w v l) (hb : Below w.heap.size w w') : PSl w' v l := Sl.below h (by omega) hb
/-- sizes that a program's data have -/
def PBd (l : PL) : Prop := l.length ≤ 9223372036854775807 ∧ ∀ k, (l.getD k ([], [])).1.length ≤ 9223372036854775807 ∧ (l.getD k ([], [])).2.length ≤ 9223372036854775807
theorem PSl.open_ {w : World} {v : Value} {l : PL} (h : PSl w v l) : (l = [] ∧ ∃ a c, v = .slice a 0 c) ∨
    (0 < l.length ∧ ∃ b o c, v = .slice (some ⟨b, o, none⟩) l.length c ∧ b < w.heap.size ∧ ∀ k, k < l.length → w.cell? ⟨b, o + k * 2, none⟩ = some (.string (bs (l.getD k ([], [])).1)) ∧ w.cell? ⟨b, o + k * 2 + 1, none⟩ = some (.string (bs (l.getD k ([], [])).2))) := by
  obtain ⟨a, c, rfl, hl, hc⟩ := h
  by_cases h0 : l.length = 0
  · exact .inl ⟨List.eq_nil_of_length_eq_zero h0, a, c, by rw [h0]⟩
  · obtain ⟨b, o, rfl, hd⟩ := hc.resolve_left h0
    have hcell : ∀ k, k < l.length → w.cell? ⟨b, o + k * 2, none⟩ = some (.string (bs (l.getD k ([], [])).1)) ∧ w.cell? ⟨b, o + k * 2 + 1, none⟩ = some (.string (bs (l.getD k ([], [])).2)) := by
      intro k hk
      obtain ⟨e1, e2⟩ := pairCells_at l k hk
      have a := hd _ _ e1; have b := hd _ _ e2
      simp only [Nat.mul_comm k 2, Nat.add_assoc]
      exact ⟨a, b⟩
    exact .inr ⟨by omega, b, o, c, rfl, block_lt_of_cell (hcell 0 (by omega)).1, hcell⟩
theorem psl_of_owns {w : World} {base : Nat} {e : TypeId} {v : Value} {l : PL} (h : w.ownsRow base e 2 v l.length (pairCells l)) : PSl w v l := sl_of_owns h
/-- a slice that lies in memory made since -/
def FreshV (B : Nat) (v : Value) : Prop := ∀ a n c, v = .slice (some a) n c → B ≤ a.block
theorem freshV_nil (B : Nat) : FreshV B (.slice none 0 0) := fun a n c h => by cases h
theorem freshV_owns {w : World} {base : Nat} {e : TypeId} {size n : Nat} {v : Value} {xs : List Value} (h : w.ownsRow base e size v n xs) : FreshV base v := by
  rcases h.2 with ⟨rfl, rfl⟩ | ⟨g, cap, cur, rfl, hbg, _⟩
  · exact freshV_nil _
  · intro a n c h; cases h; exact hbg
/-- what reads as pairs, in memory made since, is not touched by a store into an older block -/
theorem PSl.setCell {B : Nat} {w : World} {v : Value} {l : PL} (h : PSl w v l) (hf : FreshV B v) {p : Addr} (hp : p.block < B) (u : Value) : PSl (w.setCell p u) v l := by
  obtain ⟨a, c, rfl, hl, hc⟩ := h
  refine ⟨a, c, rfl, hl, ?_⟩
  rcases hc with h0 | ⟨b, o, rfl, hd⟩
  · exact .inl h0
  · refine .inr ⟨b, o, rfl, fun j u' hu => ?_⟩
    have := hf _ _ _ rfl
    rw [World.cell?_setCell_other _ _ _ _ (by intro e; subst e; simp at hp this; omega)]
    exact hd j u' hu
theorem psl_nil (w : World) : PSl w (.slice none 0 0) [] := sl_nil w 2
def strB2 : Value → List UInt8 | .string s => s.data.toList | _ => []
open Go.ChangeShapes Go.WideShapes in
/-- a slice of a struct of two texts, opened -/
theorem psl_of_trod {H : Type} {enc : TypeId × Value → H} {W : World} {fuel : Nat} {T E : TypeId} {F : Array Field} {a0 : Option Addr} {len cap : Nat} {x : DataW H × List MemPlace}
    (hT : Tryz.prog.underlying T = some (.slice E)) (hE : Tryz.prog.underlying E = some (.struct F)) {f0 f1 : Field} (hF : F = #[f0, f1]) (ce : Tryz.prog.cellsOf E = 2) (o0 : f0.offset = 0) (o1 : f1.offset = 1)
    (t0 : f0.type = 9) (t1 : f1.type = 9)
    (h : DataW.trod enc Tryz.prog W 0 (fun _ => true) true fuel T (Value.slice a0 len cap).cells.toList = some x) : ∃ l, PSl W (.slice a0 len cap) l ∧ PBd l := by
  subst hF
  have cs : Tryz.prog.cellsOf 9 = 1 := by kernel_rfl
  rcases Go.Deep.open_slice_pairs hT hE ce o0 o1 (by rw [t0]; exact cs) (by rw [t1]; exact cs) h with ⟨hc, _⟩ | ⟨a, l, c, m, n, V0, V1, D0, D1, P0, P1, hc, _, hl, hm, hmm, _, hi⟩
  · simp [Value.cells] at hc
    obtain ⟨rfl, rfl, rfl⟩ := hc
    exact ⟨[], psl_nil W, by simp, by intro k; simp⟩
  · simp [Value.cells] at hc
    obtain ⟨rfl, rfl, rfl⟩ := hc
    simp only [if_true] at hmm
    have hi' : ∀ k, k < len → W.cell? (a.add (k * 2)) = some (.string (bs (strB2 (V0 k)))) ∧ W.cell? (a.add (k * 2 + 1)) = some (.string (bs (strB2 (V1 k)))) ∧ (strB2 (V0 k)).length ≤ maxLen ∧ (strB2 (V1 k)).length ≤ maxLen := by
      intro k hk
      obtain ⟨g0, g1, d0, d1⟩ := hi k (by omega)
      rw [t0] at d0; rw [t1] at d1
      obtain ⟨s, e0, _, ws⟩ := DataW.trod_string Tryz.underlying9 d0
      obtain ⟨s', e1, _, ws'⟩ := DataW.trod_string Tryz.underlying9 d1
      simp only [List.cons.injEq, and_true] at e0 e1
      rw [e0] at g0; rw [e1] at g1
      simp only [e0, e1, strB2]
      exact ⟨by rw [g0, bs_data], by rw [g1, bs_data], by simpa using ws, by simpa using ws'⟩
    refine ⟨(List.range len).map fun k => (strB2 (V0 k), strB2 (V1 k)), ⟨some a, cap, by simp, by rw [pairCells_length], ?_⟩, ?_⟩
    · by_cases h0 : len = 0
      · left; simp [h0]
      · right
        obtain ⟨ab, ao, asp⟩ := a
        have hsp : asp = none := by simpa [Addr.add] using World.cell?_spot (hi' 0 (by omega)).1
        subst hsp
        refine ⟨ab, ao, rfl, fun j u hu => ?_⟩
        have hj : j < len * 2 := by
          have := (List.getElem?_eq_some_iff.1 hu).1
          rw [pairCells_length] at this; simpa using this
        have key : ∀ k, k < len → (((List.range len).map fun k => (strB2 (V0 k), strB2 (V1 k))).getD k ([], [])) = (strB2 (V0 k), strB2 (V1 k)) := by
          intro k hk; rw [List.getD, List.getElem?_map, List.getElem?_range hk]; rfl
        rcases Nat.mod_two_eq_zero_or_one j with hm2 | hm2
        · obtain ⟨k, rfl⟩ : ∃ k, j = 2 * k := ⟨j / 2, by omega⟩
          have := (pairCells_at ((List.range len).map fun k => (strB2 (V0 k), strB2 (V1 k))) k (by simp; omega)).1
          rw [key k (by omega)] at this
          rw [this] at hu
          cases hu
          have g := (hi' k (by omega)).1
          rw [show (⟨ab, ao, none⟩ : Addr).add (k * 2) = ⟨ab, ao + 2 * k, none⟩ by unfold Addr.add; split <;> simp <;> omega] at g
          exact g
        · obtain ⟨k, rfl⟩ : ∃ k, j = 2 * k + 1 := ⟨j / 2, by omega⟩
          have := (pairCells_at ((List.range len).map fun k => (strB2 (V0 k), strB2 (V1 k))) k (by simp; omega)).2
          rw [key k (by omega)] at this
          rw [this] at hu
          cases hu
          have g := (hi' k (by omega)).2.1
          rw [show (⟨ab, ao, none⟩ : Addr).add (k * 2 + 1) = ⟨ab, ao + (2 * k + 1), none⟩ by unfold Addr.add; rw [if_neg (by omega)]; simp; omega] at g
          exact g
    · unfold maxLen at hm hi'
      refine ⟨by simp; omega, fun k => ?_⟩
      by_cases hk : k < len
      · rw [List.getD, List.getElem?_map, List.getElem?_range hk]
        exact ⟨(hi' k hk).2.2.1, (hi' k hk).2.2.2⟩
      · rw [List.getD, List.getElem?_eq_none (by simp; omega)]; simp
/-! ### what is wrong with pairs -/
def pairsRG : PL → Nat → Nat × Int
  | [], _ => (0, -1)
  | p :: l, i => if isKey p.1 = false then (5, i) else if isValue p.2 = false then (3, i) else pairsRG l (i + 1)
def pairsR (l : PL) : Nat × Int := if 60 < l.length then (4, -1) else pairsRG l 0
theorem drop_cons {α : Type} (l : List α) (k : Nat) (d : α) (h : k < l.length) : l.drop k = l.getD k d :: l.drop (k + 1) := by
  rw [List.drop_eq_getElem_cons h]; simp [List.getD, h]
theorem pairsRG_drop (l : PL) (k : Nat) (h : k < l.length) : pairsRG (l.drop k) k = if isKey (l.getD k ([], [])).1 = false then (5, (k : Int)) else if isValue (l.getD k ([], [])).2 = false then (3, (k : Int)) else pairsRG (l.drop (k + 1)) (k + 1) := by
  rw [drop_cons l k ([], []) h, pairsRG]
end Go.Proofs.YtbimlijhgeajjaaGreatDoor

namespace Go.Proofs.YtbimlijhgeajjaaGreatDoor
open Go.RowKit
set_option linter.unusedVariables false
set_option maxRecDepth 100000
def findP : PL → List UInt8 → List UInt8 × Bool
  | [], _ => ([], false)
  | p :: l, key => if p.1 = key then (p.2, true) else findP l key
theorem findP_drop (l : PL) (key : List UInt8) (k : Nat) (h : k < l.length) : findP (l.drop k) key = if (l.getD k ([], [])).1 = key then ((l.getD k ([], [])).2, true) else findP (l.drop (k + 1)) key := by
  rw [drop_cons l k ([], []) h, findP]
def PFindPost (l : PL) (key : List UInt8) (w : World) (e : Ending) (w' : World) : Prop := e = .returned (.tuple #[.string (bs (findP l key).1), .bool (findP l key).2]) ∧ Below w.heap.size w w'
def RPFind (l : PL) (key : List UInt8) (w : World) (i : Value) (wr : World) : Prop :=
  ∃ k : Nat, k ≤ l.length ∧ i = .int .i64 (k : Nat) ∧ findP l key = findP (l.drop k) key ∧ Below w.heap.size w wr
set_option maxHeartbeats 4000000 in
theorem find_any (v : Value) (l : PL) (key : List UInt8) (w : World) (h : PSl w v l) (hn : l.length ≤ 9223372036854775807) :
    Calls Tryz.prog 31 #[v, .string (bs key)] w fun e w' => PFindPost l key w e w' := by
  rcases h.open_ with ⟨rfl, a, c, rfl⟩ | ⟨h0, b, o, c, rfl, hbl, hcell⟩
  · clear h
    go_enter Tryz.func31, Tryz.ntmps31
    go_wp2
    refine wp_loop_rounds 1 ?_
    rw [rounds_succ]
    go_wp2
    go_ret2
    exact ⟨rfl, Below.refl _ _⟩
  clear h
  have Hcell := hid hcell; clear hcell
  go_enter Tryz.func31, Tryz.ntmps31
  go_wp2
  go_loopw [10] (fun i wr => RPFind l key w i wr) (fun i _ => l.length - (intOf i).toNat)
  case atStart => exact ⟨0, by omega, rfl, rfl, Below.refl _ _⟩
  case round =>
    obtain ⟨k, hk, rfl, heq, hb⟩ := hrel
    have hB := hb.size
    by_cases hlt : k < l.length
    · obtain ⟨c0, c1⟩ := Hcell.out k hlt
      have g0 := (hb.cell (p := ⟨b, o + k * 2, none⟩) hbl).trans c0
      have g1 := (hb.cell (p := ⟨b, o + k * 2 + 1, none⟩) hbl).trans c1
      rw [findP_drop l key k hlt] at heq
      clear c0 c1
      generalize l.getD k ([], []) = x at *
      obtain ⟨x1, x2⟩ := x
      simp only at *
      by_cases hkey : x1 = key
      · rw [if_pos hkey] at heq
        subst hkey
        have Heq := hid heq; clear heq
        go_wp2
        go_ret2
        exact ⟨by rw [Heq.out]; rfl, hb.alloc hB _⟩
      · rw [if_neg hkey] at heq
        have hbe : (x1 == key) = false := by simpa using hkey
        have Heq := hid heq; clear heq
        go_wp2
        go_roundw
        case rel => exact ⟨k + 1, by omega, by go_num, Heq.out, hb.alloc hB _⟩
        case measure => simp [intOf]; omega
    · obtain rfl : k = l.length := by omega
      go_wp2
      go_ret2
      refine ⟨?_, hb⟩
      rw [heq, List.drop_length]; rfl
set_option maxHeartbeats 4000000 in
theorem rfind_any (v : Value) (l : PL) (key : List UInt8) (w : World) (h : PSl w v l) (hn : l.length ≤ 9223372036854775807) :
    Calls Tryz.prog 122 #[v, .string (bs key)] w fun e w' => PFindPost l key w e w' := by
  rcases h.open_ with ⟨rfl, a, c, rfl⟩ | ⟨h0, b, o, c, rfl, hbl, hcell⟩
  · clear h
    go_enter Tryz.func122, Tryz.ntmps122
    go_wp2
    refine wp_loop_rounds 1 ?_
    rw [rounds_succ]
    go_wp2
    go_ret2
    exact ⟨rfl, Below.refl _ _⟩
  clear h
  have Hcell := hid hcell; clear hcell
  go_enter Tryz.func122, Tryz.ntmps122
  go_wp2
  go_loopw [9] (fun i wr => RPFind l key w i wr) (fun i _ => l.length - (intOf i).toNat)
  case atStart => exact ⟨0, by omega, rfl, rfl, Below.refl _ _⟩
  case round =>
    obtain ⟨k, hk, rfl, heq, hb⟩ := hrel
    have hB := hb.size
    by_cases hlt : k < l.length
    · obtain ⟨c0, c1⟩ := Hcell.out k hlt
      have g0 := (hb.cell (p := ⟨b, o + k * 2, none⟩) hbl).trans c0
      have g1 := (hb.cell (p := ⟨b, o + k * 2 + 1, none⟩) hbl).trans c1
      rw [findP_drop l key k hlt] at heq
      clear c0 c1
      generalize l.getD k ([], []) = x at *
      obtain ⟨x1, x2⟩ := x
      simp only at *
      by_cases hkey : x1 = key
      · rw [if_pos hkey] at heq
        subst hkey
        have Heq := hid heq; clear heq
        go_wp2
        go_ret2
        exact ⟨by rw [Heq.out]; rfl, hb⟩
      · rw [if_neg hkey] at heq
        have hbe : (x1 == key) = false := by simpa using hkey
        have Heq := hid heq; clear heq
        go_wp2
        go_roundw
        case rel => exact ⟨k + 1, by omega, by go_num, Heq.out, hb⟩
        case measure => simp [intOf]; omega
    · obtain rfl : k = l.length := by omega
      go_wp2
      go_ret2
      refine ⟨?_, hb⟩
      rw [heq, List.drop_length]; rfl
end Go.Proofs.YtbimlijhgeajjaaGreatDoor

namespace Go.Proofs.YtbimlijhgeajjaaGreatDoor
open Go
/-- the pieces of a text between bytes -/
def splitL (c : UInt8) : List UInt8 → List (List UInt8)
  | [] => [[]]
  | b :: l => if b = c then [] :: splitL c l else match splitL c l with | [] => [[b]] | p :: ps => (b :: p) :: ps
theorem splitL_ne (c : UInt8) (l : List UInt8) : splitL c l ≠ [] := by
  cases l with
  | nil => simp [splitL]
  | cons b l =>
    rw [splitL]
    split
    · simp
    · split <;> simp
theorem splitL_none (c : UInt8) (l : List UInt8) (h : c ∉ l) : splitL c l = [l] := by
  induction l with
  | nil => rfl
  | cons b l ih =>
    have hb : ¬ b = c := fun e => h (by simp [e])
    have hl : c ∉ l := fun e => h (by simp [e])
    rw [splitL, if_neg hb, ih hl]
theorem splitL_cons (c : UInt8) (p l : List UInt8) (h : c ∉ p) : splitL c (p ++ c :: l) = p :: splitL c l := by
  induction p with
  | nil => simp [splitL]
  | cons b p ih =>
    have hb : ¬ b = c := fun e => h (by simp [e])
    have hl : c ∉ p := fun e => h (by simp [e])
    rw [List.cons_append, splitL, if_neg hb, ih hl]
theorem idx_cases (l : List UInt8) (c : UInt8) : (Lib.indexByte l c = -1 ∧ c ∉ l) ∨ ∃ (i : Nat), Lib.indexByte l c = (i : Int) ∧ i < l.length ∧ l = l.take i ++ c :: l.drop (i + 1) ∧ c ∉ l.take i := by
  induction l with
  | nil => left; exact ⟨rfl, by simp⟩
  | cons b l ih =>
    rw [Lib.indexByte]
    by_cases hb : b = c
    · right
      subst hb
      exact ⟨0, by simp, by simp, by simp, by simp⟩
    · have hb' : (b == c) = false := by simpa using hb
      rcases ih with ⟨h1, h2⟩ | ⟨i, h1, h2, h3, h4⟩
      · left
        rw [hb', h1]
        refine ⟨by simp, ?_⟩
        simp only [List.mem_cons, not_or]
        exact ⟨fun e => hb e.symm, h2⟩
      · right
        rw [hb', h1]
        have hne : ((i : Int) == -1) = false := by rw [beq_eq_false_iff_ne]; omega
        refine ⟨i + 1, by rw [hne]; simp, by simp; omega, ?_, ?_⟩
        · simp only [List.take_succ_cons, List.drop_succ_cons, List.cons_append]; rw [← h3]
        · simp only [List.take_succ_cons, List.mem_cons, not_or]; exact ⟨fun e => hb e.symm, h4⟩
theorem splitL_idx (c : UInt8) (l : List UInt8) (i : Nat) (h3 : l = l.take i ++ c :: l.drop (i + 1)) (h4 : c ∉ l.take i) : splitL c l = l.take i :: splitL c (l.drop (i + 1)) := by
  have := splitL_cons c (l.take i) (l.drop (i + 1)) h4
  rwa [← h3] at this
theorem count_idx (c : UInt8) (l : List UInt8) (i : Nat) (h3 : l = l.take i ++ c :: l.drop (i + 1)) (h4 : c ∉ l.take i) : l.count c = (l.drop (i + 1)).count c + 1 := by
  have h : l.count c = (l.take i ++ c :: l.drop (i + 1)).count c := congrArg _ h3
  rw [h, List.count_append, List.count_eq_zero_of_not_mem h4, List.count_cons_self]; omega
theorem splitL_length (c : UInt8) (l : List UInt8) : (splitL c l).length = l.count c + 1 := by
  induction l with
  | nil => rfl
  | cons b l ih =>
    rw [splitL]
    by_cases hb : b = c
    · subst hb; rw [if_pos rfl, List.length_cons, ih, List.count_cons_self]
    · rw [if_neg hb, List.count_cons_of_ne hb, ← ih]
      have := splitL_ne c l
      split
      · rename_i h; exact absurd h this
      · rename_i h; rw [h]; simp
/-- cut at the first byte c: ahead, behind, whether there is one -/
def cutL (c : UInt8) : List UInt8 → List UInt8 × List UInt8 × Bool
  | [] => ([], [], false)
  | b :: l => if b = c then ([], l, true) else (b :: (cutL c l).1, (cutL c l).2)
theorem cutL_none (c : UInt8) (l : List UInt8) (h : c ∉ l) : cutL c l = (l, [], false) := by
  induction l with
  | nil => rfl
  | cons b l ih =>
    have hb : ¬ b = c := fun e => h (by simp [e])
    rw [cutL, if_neg hb, ih (fun e => h (by simp [e]))]
theorem cutL_cons (c : UInt8) (p l : List UInt8) (h : c ∉ p) : cutL c (p ++ c :: l) = (p, l, true) := by
  induction p with
  | nil => simp [cutL]
  | cons b p ih =>
    have hb : ¬ b = c := fun e => h (by simp [e])
    rw [List.cons_append, cutL, if_neg hb, ih (fun e => h (by simp [e]))]
theorem cutL_idx (c : UInt8) (l : List UInt8) (i : Nat) (h3 : l = l.take i ++ c :: l.drop (i + 1)) (h4 : c ∉ l.take i) : cutL c l = (l.take i, l.drop (i + 1), true) := by
  have := cutL_cons c (l.take i) (l.drop (i + 1)) h4
  rwa [← h3] at this
theorem cutL_split (c : UInt8) (l : List UInt8) : splitL c l = if (cutL c l).2.2 then (cutL c l).1 :: splitL c (cutL c l).2.1 else [l] := by
  rcases idx_cases l c with ⟨_, h⟩ | ⟨i, _, _, h3, h4⟩
  · rw [cutL_none c l h, splitL_none c l h]; rfl
  · rw [cutL_idx c l i h3 h4, splitL_idx c l i h3 h4]; rfl
theorem cutL_length (c : UInt8) (l : List UInt8) : (cutL c l).2.2 = true → (cutL c l).1.length + (cutL c l).2.1.length + 1 = l.length := by
  rcases idx_cases l c with ⟨_, h⟩ | ⟨i, _, hi, h3, h4⟩
  · rw [cutL_none c l h]; intro h; cases h
  · rw [cutL_idx c l i h3 h4]; intro _; simp; omega
/-- cells of texts -/
def sArr (l : List (List UInt8)) : Array Value := (l.map fun x => Value.string ⟨x.toArray⟩).toArray
theorem sArr_size (l : List (List UInt8)) : (sArr l).size = l.length := by simp [sArr]
theorem sArr_get (l : List (List UInt8)) (i : Nat) (h : i < l.length) : (sArr l)[i]? = some (.string ⟨l[i].toArray⟩) := by simp [sArr, h]
theorem sArr_set (ds : List (List UInt8)) (m : Nat) (x : List UInt8) : (sArr (ds ++ List.replicate (m + 1) [])).setIfInBounds ds.length (.string ⟨x.toArray⟩) = sArr ((ds ++ [x]) ++ List.replicate m []) := by
  simp [sArr, List.replicate_succ]
end Go.Proofs.YtbimlijhgeajjaaGreatDoor
