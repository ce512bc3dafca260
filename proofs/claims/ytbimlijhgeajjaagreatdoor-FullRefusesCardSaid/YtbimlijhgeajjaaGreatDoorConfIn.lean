/- Whether a text may be a name: by the program and by the document. -/
import Derived.Test.YtbimlijhgeajjaaGreatDoorPairKey
import Derived.Test.YtbimlijhgeajjaaGreatDoorProg
import Derived.Test.YtbimlijhgeajjaaGreatDoorBase
import Derived.Test.YtbimlijhgeajjaaGreatDoorClone
import Derived.Deep.SlicePairs
import Derived.OpenShut
set_option linter.unusedSectionVars false
set_option linter.unusedSimpArgs false
set_option linter.unusedVariables false
namespace Go.Proofs.YtbimlijhgeajjaaGreatDoor
open Go Go.RowKit
set_option linter.unusedVariables false
set_option linter.unusedSectionVars false
set_option linter.unusedSimpArgs false
set_option maxRecDepth 100000
def nameOk (s : List UInt8) : Bool := decide (1 ≤ s.length) && decide (s.length ≤ 100) && isValue s
section
variable (s : List UInt8) (w : World) (hl : s.length ≤ 1048576)
include hl
theorem text_any : Calls Tryz.prog 78 #[.string (bs s), .int .i64 100] w fun e w' => e = .returned (.bool (nameOk s)) ∧ Below w.heap.size w w' := by
  by_cases h0 : s.length = 0
  · have HE := hid (show nameOk s = false by unfold nameOk; rw [decide_eq_false (by omega)]; rfl)
    have hem : (s == []) = true := by cases s <;> simp_all
    clear h0
    go_enter Tryz.func78, Tryz.ntmps78
    go_wp2
    go_ret
    exact ⟨by rw [HE.out]; rfl, Below.refl _ _⟩
  · have hem : (s == []) = false := by cases s <;> simp_all
    by_cases h1 : s.length ≤ 100
    · have HE := hid (show nameOk s = isValue s by unfold nameOk; rw [decide_eq_true (by omega), decide_eq_true h1]; rfl)
      have hle : decide ((s.length : Int) ≤ 100) = true := decide_eq_true (by omega)
      have cv := hid (value_any s w (by omega))
      generalize isValue s = r at *
      clear h0
      go_enter Tryz.func78, Tryz.ntmps78
      go_wp2_with fail
      refine cv.out.mono ?_
      rintro e w1 ⟨rfl, hb1⟩
      subst hb1
      go_wp2
      go_ret
      exact ⟨by rw [HE.out]; rfl, Below.refl _ _⟩
    · have HE := hid (show nameOk s = false by unfold nameOk; rw [decide_eq_false h1]; simp)
      have hle : decide ((s.length : Int) ≤ 100) = false := decide_eq_false (by omega)
      clear h0
      go_enter Tryz.func78, Tryz.ntmps78
      go_wp2
      go_ret
      exact ⟨by rw [HE.out]; rfl, Below.refl _ _⟩
theorem isName_any : Calls Tryz.prog 76 #[.string (bs s)] w fun e w' => e = .returned (.bool (nameOk s)) ∧ Below w.heap.size w w' := by
  by_cases h1 : 1 ≤ s.length ∧ s.length ≤ 100
  · have HE := hid (show nameOk s = isValue s by unfold nameOk; rw [decide_eq_true h1.1, decide_eq_true h1.2]; rfl)
    have cw := hid (within_true (s.length : Int) 1 100 w (by omega) (by omega))
    have cv := fun w => hid (rvalue_any s w (by omega))
    generalize isValue s = r at *
    clear h1
    go_enter Tryz.func76, Tryz.ntmps76
    go_wp2_with fail
    refine cw.out.mono ?_
    rintro e w1 ⟨rfl, hw1⟩
    subst hw1
    go_wp2_with fail
    refine (cv _).out.mono ?_
    rintro e w2 ⟨rfl, hb2⟩
    go_wp2
    go_ret
    exact ⟨by rw [HE.out]; rfl, hb2⟩
  · have hE : nameOk s = false := by
      unfold nameOk
      by_cases h : 1 ≤ s.length
      · rw [decide_eq_false (show ¬ s.length ≤ 100 by omega)]; simp
      · rw [decide_eq_false h]; rfl
    have HE := hid hE
    clear hE
    have cw := hid (within_false (s.length : Int) 1 100 w (by omega))
    clear h1
    go_enter Tryz.func76, Tryz.ntmps76
    go_wp2_with fail
    refine cw.out.mono ?_
    rintro e w1 ⟨rfl, hw1⟩
    subst hw1
    go_wp2
    go_ret
    exact ⟨by rw [HE.out]; rfl, Below.refl _ _⟩
end
end Go.Proofs.YtbimlijhgeajjaaGreatDoor

namespace Go.Proofs.YtbimlijhgeajjaaGreatDoor
open Go Go.RowKit
set_option linter.unusedVariables false
set_option linter.unusedSectionVars false
set_option linter.unusedSimpArgs false
set_option maxRecDepth 100000
def txtCells (l : List (List UInt8)) : List Value := l.map fun x => .string (bs x)
/-- a slice value that reads as texts -/
def TSl (w : World) (v : Value) (l : List (List UInt8)) : Prop := Sl w v 1 l.length (txtCells l)
theorem TSl.below {w w' : World} {v : Value} {l : List (List UInt8)} (h : TSl w v l) (hb : Below w.heap.size w w') : TSl w' v l := Sl.below h (by omega) hb
theorem TSl.open_ {w : World} {a : Option Addr} {n c : Nat} {l : List (List UInt8)} (h : TSl w (.slice a n c) l) (h0 : 0 < l.length) : ∃ b o, a = some ⟨b, o, none⟩ ∧ b < w.heap.size ∧ ∀ k, k < l.length → w.cell? ⟨b, o + k, none⟩ = some (.string (bs (l.getD k []))) := by
  obtain ⟨a', c', hv, hl, hc⟩ := h
  cases hv
  obtain ⟨b, o, ha, hd⟩ := hc.resolve_left (by omega)
  have key : ∀ k, k < l.length → w.cell? ⟨b, o + k, none⟩ = some (.string (bs (l.getD k []))) := fun k hk => hd k _ (by
    unfold txtCells
    rw [List.getElem?_map, List.getElem?_eq_getElem hk, List.getD, List.getElem?_eq_getElem hk]; rfl)
  exact ⟨b, o, ha, block_lt_of_cell (key 0 h0), key⟩
def confV (ts ps us ow : Value) (sn ss : List UInt8) (lim : Int) : Value := .agg #[ts, ps, us, .string (bs sn), .string (bs ss), .int .i64 lim, ow]
theorem has_take (l : List (List UInt8)) (n : List UInt8) (k : Nat) (hk : k < l.length) : (l.take (k + 1)).contains n = ((l.take k).contains n || l.getD k [] == n) := by
  rw [List.take_succ_eq_append_getElem hk, List.contains_append, List.getD, List.getElem?_eq_getElem hk]
  simp only [Option.getD_some, List.contains_cons, List.contains_nil, Bool.or_false]
  congr 1
  rw [Bool.eq_iff_iff, beq_iff_eq, beq_iff_eq]
  exact eq_comm
def RHas (l : List (List UInt8)) (n : List UInt8) (W : World) (i : Value) (wr : World) : Prop :=
  ∃ k : Nat, k ≤ l.length ∧ i = .int .i64 (k : Nat) ∧ Hid ((l.take k).contains n = false) ∧ wr = W
def RHasR (l : List (List UInt8)) (n : List UInt8) (W : World) (b i : Value) (wr : World) : Prop :=
  ∃ k : Nat, k ≤ l.length ∧ i = .int .i64 (k : Nat) ∧ b = .bool ((l.take k).contains n) ∧ wr = W
section
variable (ta : Option Addr) (tc : Nat) (ps us ow : Value) (sn ss : List UInt8) (lim : Int) (l : List (List UInt8)) (n : List UInt8) (w : World) (h : TSl w (.slice ta l.length tc) l) (hn : l.length ≤ 1048576)
include h hn
theorem has_any : Calls Tryz.prog 169 #[confV (.slice ta l.length tc) ps us ow sn ss lim, .string (bs n)] w fun e w' => e = .returned (.bool (l.contains n)) ∧ Below w.heap.size w w' := by
  obtain ⟨W1, hW1⟩ : ∃ W1, w.alloc (.cells #[.slice ta l.length tc, ps, us, .string (bs sn), .string (bs ss), .int .i64 lim, ow] 30) = W1 := ⟨_, rfl⟩
  have b1 : Below w.heap.size w W1 := by rw [← hW1]; exact (Below.refl _ _).alloc (Nat.le_refl _) _
  have t0 : W1.cell? ⟨w.heap.size, 0, none⟩ = some (.slice ta l.length tc) := by rw [← hW1]; simp
  have h1 := h.below b1
  clear h
  unfold confV
  go_enter Tryz.func169, Tryz.ntmps169
  go_wp2
  go_loopw [10] (fun i wr => RHas l n W1 i wr) (fun i _ => l.length - (intOf i).toNat)
  case atStart => exact ⟨0, by omega, rfl, hid rfl, rfl⟩
  case round =>
    obtain ⟨k, hk, rfl, HK, rfl⟩ := hrel
    by_cases hlt : k < l.length
    · obtain ⟨b, o, rfl, hbl, hcell⟩ := h1.open_ (by omega)
      have g0 := hcell k hlt
      have HT := hid (has_take l n k hlt)
      by_cases he : l.getD k [] = n
      · have hbe : (l.getD k [] == n) = true := beq_iff_eq.2 he
        have HE := hid (show l.contains n = true by
          rw [List.contains_iff_mem, ← he, List.getD, List.getElem?_eq_getElem hlt]
          exact List.getElem_mem hlt)
        clear hcell HT he
        generalize l.getD k [] = x at *
        go_wp2
        go_ret
        exact ⟨by rw [HE.out]; rfl, b1⟩
      · have hbe : (l.getD k [] == n) = false := beq_eq_false_iff_ne.2 he
        have HS := hid (show (l.take (k + 1)).contains n = false by rw [HT.out, HK.out, hbe]; rfl)
        clear hcell HT he
        generalize l.getD k [] = x at *
        go_wp2
        refine ⟨⟨k + 1, by omega, by go_num, hid HS.out, rfl⟩, by simp [intOf]; omega⟩
    · obtain rfl : k = l.length := by omega
      have hke := HK.out
      rw [List.take_length] at hke
      have HE := hid hke
      clear hke
      go_wp2
      go_ret
      exact ⟨by rw [HE.out]; rfl, b1⟩
theorem rhas_any : Calls Tryz.prog 77 #[confV (.slice ta l.length tc) ps us ow sn ss lim, .string (bs n)] w fun e w' => e = .returned (.bool (l.contains n)) ∧ Below w.heap.size w w' := by
  obtain ⟨W1, hW1⟩ : ∃ W1, w.alloc (.cells #[.slice ta l.length tc, ps, us, .string (bs sn), .string (bs ss), .int .i64 lim, ow] 30) = W1 := ⟨_, rfl⟩
  have b1 : Below w.heap.size w W1 := by rw [← hW1]; exact (Below.refl _ _).alloc (Nat.le_refl _) _
  have t0 : W1.cell? ⟨w.heap.size, 0, none⟩ = some (.slice ta l.length tc) := by rw [← hW1]; simp
  have h1 := h.below b1
  clear h
  unfold confV
  go_enter Tryz.func77, Tryz.ntmps77
  go_wp2
  go_loopw [5, 10] (fun b i wr => RHasR l n W1 b i wr) (fun _ i _ => l.length - (intOf i).toNat)
  case atStart => exact ⟨0, by omega, rfl, rfl, rfl⟩
  case round =>
    obtain ⟨k, hk, rfl, rfl, rfl⟩ := hrel
    by_cases hlt : k < l.length
    · obtain ⟨b, o, rfl, hbl, hcell⟩ := h1.open_ (by omega)
      have g0 := hcell k hlt
      have HT := hid (has_take l n k hlt)
      clear hcell
      cases hc : (l.take k).contains n with
      | true =>
        rw [hc] at HT
        go_wp2
        refine ⟨⟨k + 1, by omega, by go_num, by rw [HT.out]; rfl, rfl⟩, by simp [intOf]; omega⟩
      | false =>
        rw [hc] at HT
        generalize l.getD k [] = x at *
        go_wp2
        refine ⟨⟨k + 1, by omega, by go_num, by rw [HT.out]; rfl, rfl⟩, by simp [intOf]; omega⟩
    · obtain rfl : k = l.length := by omega
      rw [List.take_length]
      obtain ⟨r, hr⟩ : ∃ r, l.contains n = r := ⟨_, rfl⟩
      have HR := hid hr
      rw [hr]
      clear hr h1
      go_wp2
      go_ret
      exact ⟨by rw [HR.out]; rfl, b1⟩
end
end Go.Proofs.YtbimlijhgeajjaaGreatDoor

namespace Go.Proofs.YtbimlijhgeajjaaGreatDoor
open Go Go.RowKit
set_option linter.unusedVariables false
set_option linter.unusedSectionVars false
set_option linter.unusedSimpArgs false
/-- the first of so many that is bad, and what of it -/
def scanB (n : Nat) (bad : Nat → Nat) : Nat × Int := match (List.range n).find? (fun k => decide (bad k ≠ 0)) with | some k => (bad k, (k : Int)) | none => (0, -1)
def NoneAhead (bad : Nat → Nat) (k : Nat) : Prop := ∀ j, j < k → bad j = 0
theorem noneAhead_zero (bad : Nat → Nat) : NoneAhead bad 0 := fun j hj => absurd hj (by omega)
theorem NoneAhead.step {bad : Nat → Nat} {k : Nat} (h : NoneAhead bad k) (hk : bad k = 0) : NoneAhead bad (k + 1) := fun j hj => by
  rcases Nat.lt_or_ge j k with h' | h'
  · exact h j h'
  · obtain rfl : j = k := by omega
    exact hk
theorem scan_at (n : Nat) (bad : Nat → Nat) (k : Nat) (hk : k < n) (hb : bad k ≠ 0) (ha : NoneAhead bad k) : scanB n bad = (bad k, (k : Int)) := by
  unfold scanB
  have : (List.range n).find? (fun k => decide (bad k ≠ 0)) = some k := by
    rw [List.find?_range_eq_some]
    refine ⟨by simpa using hb, by simpa using hk, fun j hj => ?_⟩
    simp [ha j hj]
  rw [this]
theorem scan_none (n : Nat) (bad : Nat → Nat) (ha : NoneAhead bad n) : scanB n bad = (0, -1) := by
  unfold scanB
  have : (List.range n).find? (fun k => decide (bad k ≠ 0)) = none := by
    rw [List.find?_eq_none]
    intro j hj
    rw [List.mem_range] at hj
    simp [ha j hj]
  rw [this]
/-- portals: where they are, and their groups -/
abbrev GL := List (List UInt8 × Int)
def tBad (ts : List (List UInt8)) (k : Nat) : Nat := if nameOk (ts.getD k []) = true ∧ (ts.take k).contains (ts.getD k []) = false then 0 else 5
def gBad (gs : GL) (k : Nat) : Nat := if nameOk (gs.getD k ([], 0)).1 = false then 5 else if (gs.getD k ([], 0)).2 < 0 ∨ 65535 < (gs.getD k ([], 0)).2 then 2 else 0
def uBad (us : PL) (k : Nat) : Nat := if nameOk (us.getD k ([], [])).1 = true ∧ nameOk (us.getD k ([], [])).2 = true ∧ ((us.take k).map (·.1)).contains (us.getD k ([], [])).1 = false then 0 else 5
def selfBad (n s : List UInt8) : Bool := !(n.length + s.length == 0) && !(nameOk n && nameOk s)
/-- what is wrong with what a target is told -/
def rightP (ts : List (List UInt8)) (gs : GL) (us : PL) (sn ss : List UInt8) (lim : Int) (own : PL) : Nat × Int :=
  if 8 < ts.length ∨ 4 < gs.length ∨ 8 < us.length then (4, -1) else
  if (scanB ts.length (tBad ts)).1 ≠ 0 then scanB ts.length (tBad ts) else
  if (scanB gs.length (gBad gs)).1 ≠ 0 then scanB gs.length (gBad gs) else
  if (scanB us.length (uBad us)).1 ≠ 0 then scanB us.length (uBad us) else
  if selfBad sn ss = true then (3, -1) else
  if lim < 512 ∨ 100000 < lim then (2, -1) else negoP own
def overP (ts : List (List UInt8)) (gs : GL) (us : PL) : Prop := 8 < ts.length ∨ 4 < gs.length ∨ 8 < us.length
section
variable (ts : List (List UInt8)) (gs : GL) (us : PL) (sn ss : List UInt8) (lim : Int) (own : PL)
theorem rightP_over (h : overP ts gs us) : rightP ts gs us sn ss lim own = (4, -1) := if_pos h
variable (h0 : ¬ overP ts gs us)
include h0
theorem rightP_t (k : Nat) (hk : k < ts.length) (hb : tBad ts k ≠ 0) (ha : NoneAhead (tBad ts) k) : rightP ts gs us sn ss lim own = (tBad ts k, (k : Int)) := by
  unfold rightP
  rw [if_neg (show ¬ (8 < ts.length ∨ 4 < gs.length ∨ 8 < us.length) from h0), scan_at _ _ k hk hb ha, if_pos hb]
variable (ht : NoneAhead (tBad ts) ts.length)
include ht
theorem rightP_g (k : Nat) (hk : k < gs.length) (hb : gBad gs k ≠ 0) (ha : NoneAhead (gBad gs) k) : rightP ts gs us sn ss lim own = (gBad gs k, (k : Int)) := by
  unfold rightP
  rw [if_neg (show ¬ (8 < ts.length ∨ 4 < gs.length ∨ 8 < us.length) from h0), scan_none _ _ ht, if_neg (by simp), scan_at _ _ k hk hb ha, if_pos hb]
variable (hg : NoneAhead (gBad gs) gs.length)
include hg
theorem rightP_u (k : Nat) (hk : k < us.length) (hb : uBad us k ≠ 0) (ha : NoneAhead (uBad us) k) : rightP ts gs us sn ss lim own = (uBad us k, (k : Int)) := by
  unfold rightP
  rw [if_neg (show ¬ (8 < ts.length ∨ 4 < gs.length ∨ 8 < us.length) from h0), scan_none _ _ ht, if_neg (by simp), scan_none _ _ hg, if_neg (by simp), scan_at _ _ k hk hb ha, if_pos hb]
variable (hu : NoneAhead (uBad us) us.length)
include hu
theorem rightP_rest : rightP ts gs us sn ss lim own = if selfBad sn ss = true then (3, -1) else if lim < 512 ∨ 100000 < lim then (2, -1) else negoP own := by
  unfold rightP
  rw [if_neg (show ¬ (8 < ts.length ∨ 4 < gs.length ∨ 8 < us.length) from h0), scan_none _ _ ht, if_neg (by simp), scan_none _ _ hg, if_neg (by simp), scan_none _ _ hu, if_neg (by simp)]
end
end Go.Proofs.YtbimlijhgeajjaaGreatDoor

namespace Go.Proofs.YtbimlijhgeajjaaGreatDoor
open Go.RowKit
set_option linter.unusedVariables false
set_option linter.unusedSectionVars false
set_option linter.unusedSimpArgs false
/-! ### slices of a struct of two one-cell fields -/
def cells2 {α : Type} (F G : α → Value) (xs : List α) : List Value := xs.flatMap fun x => [F x, G x]
theorem cells2_length {α : Type} (F G : α → Value) (xs : List α) : (cells2 F G xs).length = xs.length * 2 := by
  induction xs with
  | nil => rfl
  | cons x xs ih => simp only [cells2, List.flatMap_cons, List.length_append, List.length_cons, List.length_nil] at ih ⊢; omega
theorem cells2_at {α : Type} (F G : α → Value) (d : α) (xs : List α) (k : Nat) (h : k < xs.length) : (cells2 F G xs)[2 * k]? = some (F (xs.getD k d)) ∧ (cells2 F G xs)[2 * k + 1]? = some (G (xs.getD k d)) := by
  induction xs generalizing k with
  | nil => simp at h
  | cons x xs ih =>
    cases k with
    | zero => simp [cells2]
    | succ k =>
      have := ih k (by simpa using h)
      have e : cells2 F G (x :: xs) = F x :: G x :: cells2 F G xs := rfl
      rw [e]
      simp only [show 2 * (k + 1) = 2 * k + 1 + 1 by omega, List.getElem?_cons_succ, List.getD_cons_succ]
      exact this
theorem sl2_open {α : Type} {F G : α → Value} (d : α) {w : World} {v : Value} {l : List α} (h : Sl w v 2 l.length (cells2 F G l)) : (l = [] ∧ ∃ a c, v = .slice a 0 c) ∨
    (0 < l.length ∧ ∃ b o c, v = .slice (some ⟨b, o, none⟩) l.length c ∧ b < w.heap.size ∧ ∀ k, k < l.length → w.cell? ⟨b, o + k * 2, none⟩ = some (F (l.getD k d)) ∧ w.cell? ⟨b, o + k * 2 + 1, none⟩ = some (G (l.getD k d))) := by
  obtain ⟨a, c, rfl, hl, hc⟩ := h
  by_cases h0 : l.length = 0
  · exact .inl ⟨List.eq_nil_of_length_eq_zero h0, a, c, by rw [h0]⟩
  · obtain ⟨b, o, rfl, hd⟩ := hc.resolve_left h0
    have hcell : ∀ k, k < l.length → w.cell? ⟨b, o + k * 2, none⟩ = some (F (l.getD k d)) ∧ w.cell? ⟨b, o + k * 2 + 1, none⟩ = some (G (l.getD k d)) := by
      intro k hk
      obtain ⟨e1, e2⟩ := cells2_at F G d l k hk
      have a := hd _ _ e1; have b := hd _ _ e2
      simp only [Nat.mul_comm k 2, Nat.add_assoc]
      exact ⟨a, b⟩
    exact .inr ⟨by omega, b, o, c, rfl, block_lt_of_cell (hcell 0 (by omega)).1, hcell⟩
/-- a slice that is handed in, whose cells are known one by one -/
theorem sl2_of_cells {α : Type} {F G : α → Value} {W : World} {a : Addr} {len cap : Nat} (X : Nat → α) (h : ∀ k, k < len → W.cell? (a.add (k * 2)) = some (F (X k)) ∧ W.cell? (a.add (k * 2 + 1)) = some (G (X k))) :
    Sl W (.slice (some a) len cap) 2 ((List.range len).map X).length (cells2 F G ((List.range len).map X)) := by
  refine ⟨some a, cap, by simp, by rw [cells2_length], ?_⟩
  by_cases h0 : len = 0
  · left; simp [h0]
  · right
    obtain ⟨ab, ao, asp⟩ := a
    have hsp : asp = none := by simpa [Addr.add] using World.cell?_spot (h 0 (by omega)).1
    subst hsp
    refine ⟨ab, ao, rfl, fun j u hu => ?_⟩
    have hj : j < len * 2 := by
      have := (List.getElem?_eq_some_iff.1 hu).1
      rw [cells2_length] at this; simpa using this
    have key : ∀ k, k < len → ((List.range len).map X).getD k (X 0) = X k := by
      intro k hk; rw [List.getD, List.getElem?_map, List.getElem?_range hk]; rfl
    rcases Nat.mod_two_eq_zero_or_one j with hm2 | hm2
    · obtain ⟨k, rfl⟩ : ∃ k, j = 2 * k := ⟨j / 2, by omega⟩
      have := (cells2_at F G (X 0) ((List.range len).map X) k (by simp; omega)).1
      rw [key k (by omega)] at this
      rw [this] at hu
      cases hu
      have g := (h k (by omega)).1
      rw [show (⟨ab, ao, none⟩ : Addr).add (k * 2) = ⟨ab, ao + 2 * k, none⟩ by unfold Addr.add; split <;> simp <;> omega] at g
      exact g
    · obtain ⟨k, rfl⟩ : ∃ k, j = 2 * k + 1 := ⟨j / 2, by omega⟩
      have := (cells2_at F G (X 0) ((List.range len).map X) k (by simp; omega)).2
      rw [key k (by omega)] at this
      rw [this] at hu
      cases hu
      have g := (h k (by omega)).2
      rw [show (⟨ab, ao, none⟩ : Addr).add (k * 2 + 1) = ⟨ab, ao + (2 * k + 1), none⟩ by unfold Addr.add; rw [if_neg (by omega)]; simp; omega] at g
      exact g
end Go.Proofs.YtbimlijhgeajjaaGreatDoor

namespace Go.Proofs.YtbimlijhgeajjaaGreatDoor
open Go Go.RowKit
set_option linter.unusedVariables false
set_option linter.unusedSectionVars false
set_option linter.unusedSimpArgs false
set_option maxRecDepth 100000
/-- a sum over a list -/
def totS {α : Type} (f : α → Nat) (l : List α) : Nat := (l.map f).sum
theorem totS_step {α : Type} (f : α → Nat) (l : List α) (k : Nat) (d : α) (h : k < l.length) : totS f (l.take (k + 1)) = totS f (l.take k) + f (l.getD k d) := by
  rw [List.take_succ_eq_append_getElem h, List.getD, List.getElem?_eq_getElem h]
  unfold totS
  rw [List.map_append, List.sum_append]
  simp only [Option.getD_some, List.map_cons, List.map_nil, List.sum_cons, List.sum_nil, Nat.add_zero]
theorem totS_take {α : Type} (f : α → Nat) (l : List α) (k : Nat) : totS f (l.take k) ≤ totS f l := by
  have e : l = l.take k ++ l.drop k := (List.take_append_drop k l).symm
  have h2 : totS f (l.take k ++ l.drop k) = totS f (l.take k) + totS f (l.drop k) := by unfold totS; rw [List.map_append, List.sum_append]
  rw [← e] at h2
  omega
theorem totS_at {α : Type} (f : α → Nat) (l : List α) (k : Nat) (d : α) (h : k < l.length) : f (l.getD k d) ≤ totS f l := by
  have h1 := totS_step f l k d h
  have h2 := totS_take f l (k + 1)
  omega
theorem totS_len {α : Type} (f : α → Nat) (l : List α) (h : ∀ x, 1 ≤ f x) : l.length ≤ totS f l := by
  induction l with
  | nil => simp
  | cons x l ih =>
    have := h x
    simp only [totS, List.map_cons, List.sum_cons, List.length_cons] at ih ⊢
    omega
def szT (x : List UInt8) : Nat := 1 + x.length
def szG (x : List UInt8 × Int) : Nat := 1 + x.1.length
def szP (x : List UInt8 × List UInt8) : Nat := 1 + x.1.length + x.2.length
def poF (x : List UInt8 × Int) : Value := .string (bs x.1)
def poG (x : List UInt8 × Int) : Value := .int .i64 x.2
/-- a slice value that reads as portals -/
def GSl (w : World) (v : Value) (l : GL) : Prop := Sl w v 2 l.length (cells2 poF poG l)
theorem GSl.below {w w' : World} {v : Value} {l : GL} (h : GSl w v l) (hb : Below w.heap.size w w') : GSl w' v l := Sl.below h (by omega) hb
theorem GSl.open_ {w : World} {v : Value} {l : GL} (h : GSl w v l) : (l = [] ∧ ∃ a c, v = .slice a 0 c) ∨
    (0 < l.length ∧ ∃ b o c, v = .slice (some ⟨b, o, none⟩) l.length c ∧ b < w.heap.size ∧ ∀ k, k < l.length → w.cell? ⟨b, o + k * 2, none⟩ = some (.string (bs (l.getD k ([], 0)).1)) ∧ w.cell? ⟨b, o + k * 2 + 1, none⟩ = some (.int .i64 (l.getD k ([], 0)).2)) := sl2_open (F := poF) (G := poG) ([], 0) h
/-- what is told, and its bounds -/
structure ConfIn (w : World) (ts : List (List UInt8)) (gs : GL) (us : PL) (sn ss : List UInt8) (lim : Int) (own : PL) (tv gv uv ov : Value) : Prop where
  ht : TSl w tv ts
  hg : GSl w gv gs
  hu : PSl w uv us
  ho : PSl w ov own
  bound : totS szT ts + totS szG gs + totS szP us + totS szP own + sn.length + ss.length ≤ 1048576
  capO : ∀ a c, ov = .slice a own.length c → own.length ≤ c
  capT : ∀ k, -9223372036854775808 ≤ (gs.getD k ([], 0)).2 ∧ (gs.getD k ([], 0)).2 ≤ 9223372036854775807
  capU : ∀ a c, uv = .slice a us.length c → us.length ≤ c
  limB : -9223372036854775808 ≤ lim ∧ lim ≤ 9223372036854775807
  capS : ∀ a c, tv = .slice a ts.length c → ts.length ≤ c
theorem ConfIn.below {w w' : World} {ts : List (List UInt8)} {gs : GL} {us : PL} {sn ss : List UInt8} {lim : Int} {own : PL} {tv gv uv ov : Value} (h : ConfIn w ts gs us sn ss lim own tv gv uv ov) (hb : Below w.heap.size w w') : ConfIn w' ts gs us sn ss lim own tv gv uv ov :=
  ⟨h.ht.below hb, h.hg.below hb, h.hu.below hb, h.ho.below hb, h.bound, h.capO, h.capT, h.capU, h.limB, h.capS⟩
section
variable {w : World} {ts : List (List UInt8)} {gs : GL} {us : PL} {sn ss : List UInt8} {lim : Int} {own : PL} {tv gv uv ov : Value}
theorem ConfIn.tn (h : ConfIn w ts gs us sn ss lim own tv gv uv ov) : ts.length ≤ 1048576 := by
  have h1 := totS_len szT ts (fun x => by unfold szT; omega)
  have h2 := h.bound
  omega
theorem ConfIn.gn (h : ConfIn w ts gs us sn ss lim own tv gv uv ov) : gs.length ≤ 1048576 := by
  have h1 := totS_len szG gs (fun x => by unfold szG; omega)
  have h2 := h.bound
  omega
theorem ConfIn.un (h : ConfIn w ts gs us sn ss lim own tv gv uv ov) : us.length ≤ 1048576 := by
  have h1 := totS_len szP us (fun x => by unfold szP; omega)
  have h2 := h.bound
  omega
theorem ConfIn.on (h : ConfIn w ts gs us sn ss lim own tv gv uv ov) : own.length ≤ 1048576 := by
  have h1 := totS_len szP own (fun x => by unfold szP; omega)
  have h2 := h.bound
  omega
theorem ConfIn.tl (h : ConfIn w ts gs us sn ss lim own tv gv uv ov) (k : Nat) (hk : k < ts.length) : (ts.getD k []).length ≤ 1048576 := by
  have h1 := totS_at szT ts k [] hk
  have h2 := h.bound
  unfold szT at h1 h2
  omega
theorem ConfIn.gl (h : ConfIn w ts gs us sn ss lim own tv gv uv ov) (k : Nat) (hk : k < gs.length) : (gs.getD k ([], 0)).1.length ≤ 1048576 := by
  have h1 := totS_at szG gs k ([], 0) hk
  have h2 := h.bound
  unfold szG at h1 h2
  omega
theorem ConfIn.ul (h : ConfIn w ts gs us sn ss lim own tv gv uv ov) (k : Nat) (hk : k < us.length) : (us.getD k ([], [])).1.length ≤ 1048576 ∧ (us.getD k ([], [])).2.length ≤ 1048576 := by
  have h1 := totS_at szP us k ([], []) hk
  have h2 := h.bound
  unfold szP at h1 h2
  omega
theorem ConfIn.ol (h : ConfIn w ts gs us sn ss lim own tv gv uv ov) (k : Nat) : (own.getD k ([], [])).1.length ≤ 1048576 ∧ (own.getD k ([], [])).2.length ≤ 1048576 := by
  rcases Nat.lt_or_ge k own.length with hk | hk
  · have h1 := totS_at szP own k ([], []) hk
    have h2 := h.bound
    unfold szP at h1 h2
    omega
  · rw [List.getD, List.getElem?_eq_none hk]; simp
theorem ConfIn.snl (h : ConfIn w ts gs us sn ss lim own tv gv uv ov) : sn.length ≤ 1048576 := by have := h.bound; omega
theorem ConfIn.ssl (h : ConfIn w ts gs us sn ss lim own tv gv uv ov) : ss.length ≤ 1048576 := by have := h.bound; omega
theorem ConfIn.pbd (h : ConfIn w ts gs us sn ss lim own tv gv uv ov) : PBd own := ⟨by have := h.on; omega, fun k => by have := h.ol k; omega⟩
end
end Go.Proofs.YtbimlijhgeajjaaGreatDoor
