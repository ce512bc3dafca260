/- Whether a text may be a name: by the program and by the document. -/
import Derived.Test.YtfeenkofnbefaaaGreatDoorPairVal
import Derived.Test.YtfeenkofnbefaaaGreatDoorProg
import Derived.Test.YtfeenkofnbefaaaGreatDoorBase
set_option linter.unusedSectionVars false
set_option linter.unusedSimpArgs false
set_option linter.unusedVariables false
namespace Go.Proofs.YtfeenkofnbefaaaGreatDoor
open Go Go.RowKit
set_option linter.unusedVariables false
set_option linter.unusedSectionVars false
set_option linter.unusedSimpArgs false
set_option maxRecDepth 100000
def nameOk (s : List UInt8) : Bool := decide (1 ≤ s.length) && decide (s.length ≤ 100) && isValue s
section
variable (s : List UInt8) (w : World) (hl : s.length ≤ 1048576)
include hl
theorem text_any : Calls Tryz.prog 54 #[.string (bs s), .int .i64 100] w fun e w' => e = .returned (.bool (nameOk s)) ∧ Below w.heap.size w w' := by
  by_cases h0 : s.length = 0
  · have HE := hid (show nameOk s = false by unfold nameOk; rw [decide_eq_false (by omega)]; rfl)
    have hem : (s == []) = true := by cases s <;> simp_all
    clear h0
    go_enter Tryz.func54, Tryz.ntmps54
    go_wp2
    go_ret
    exact ⟨by rw [HE.out]; rfl, Below.refl _ _⟩
  · have hem : (s == []) = false := by cases s <;> simp_all
    by_cases h1 : s.length ≤ 100
    · have HE := hid (show nameOk s = isValue s by unfold nameOk; rw [decide_eq_true (by omega), decide_eq_true h1]; rfl)
      have hle : decide ((s.length : Int) ≤ 100) = true := decide_eq_true (by omega)
      have cv := hid (value_any s w (by omega))
      generalize isValue s = r at *
      clear h0
      go_enter Tryz.func54, Tryz.ntmps54
      go_wp2_with fail
      refine cv.out.mono ?_
      rintro e w1 ⟨rfl, hb1⟩
      subst hb1
      go_wp2
      go_ret
      exact ⟨by rw [HE.out]; rfl, Below.refl _ _⟩
    · have HE := hid (show nameOk s = false by unfold nameOk; rw [decide_eq_false h1]; simp)
      have hle : decide ((s.length : Int) ≤ 100) = false := decide_eq_false (by omega)
      clear h0
      go_enter Tryz.func54, Tryz.ntmps54
      go_wp2
      go_ret
      exact ⟨by rw [HE.out]; rfl, Below.refl _ _⟩
theorem isName_any : Calls Tryz.prog 56 #[.string (bs s)] w fun e w' => e = .returned (.bool (nameOk s)) ∧ Below w.heap.size w w' := by
  by_cases h1 : 1 ≤ s.length ∧ s.length ≤ 100
  · have HE := hid (show nameOk s = isValue s by unfold nameOk; rw [decide_eq_true h1.1, decide_eq_true h1.2]; rfl)
    have cw := hid (within_true (s.length : Int) 1 100 w (by omega) (by omega))
    have cv := fun w => hid (rvalue_any s w (by omega))
    generalize isValue s = r at *
    clear h1
    go_enter Tryz.func56, Tryz.ntmps56
    go_wp2_with fail
    refine cw.out.mono ?_
    rintro e w1 ⟨rfl, hw1⟩
    subst hw1
    go_wp2_with fail
    refine (cv _).out.mono ?_
    rintro e w2 ⟨rfl, hb2⟩
    go_wp2
    go_ret
    exact ⟨by rw [HE.out]; rfl, hb2⟩
  · have hE : nameOk s = false := by
      unfold nameOk
      by_cases h : 1 ≤ s.length
      · rw [decide_eq_false (show ¬ s.length ≤ 100 by omega)]; simp
      · rw [decide_eq_false h]; rfl
    have HE := hid hE
    clear hE
    have cw := hid (within_false (s.length : Int) 1 100 w (by omega))
    clear h1
    go_enter Tryz.func56, Tryz.ntmps56
    go_wp2_with fail
    refine cw.out.mono ?_
    rintro e w1 ⟨rfl, hw1⟩
    subst hw1
    go_wp2
    go_ret
    exact ⟨by rw [HE.out]; rfl, Below.refl _ _⟩
end
end Go.Proofs.YtfeenkofnbefaaaGreatDoor

namespace Go.Proofs.YtfeenkofnbefaaaGreatDoor
open Go Go.RowKit
set_option linter.unusedVariables false
set_option linter.unusedSectionVars false
set_option linter.unusedSimpArgs false
set_option maxRecDepth 100000
def txtCells (l : List (List UInt8)) : List Value := l.map fun x => .string (bs x)
/-- a slice value that reads as texts -/
def TSl (w : World) (v : Value) (l : List (List UInt8)) : Prop := Sl w v 1 l.length (txtCells l)
theorem TSl.below {w w' : World} {v : Value} {l : List (List UInt8)} (h : TSl w v l) (hb : Below w.heap.size w w') : TSl w' v l := Sl.below h (by omega) hb
theorem TSl.open_ {w : World} {a : Option Addr} {n c : Nat} {l : List (List UInt8)} (h : TSl w (.slice a n c) l) (h0 : 0 < l.length) : ∃ b o, a = some ⟨b, o, none⟩ ∧ b < w.heap.size ∧ ∀ k, k < l.length → w.cell? ⟨b, o + k, none⟩ = some (.string (bs (l.getD k []))) := by
  obtain ⟨a', c', hv, hl, hc⟩ := h
  cases hv
  obtain ⟨b, o, ha, hd⟩ := hc.resolve_left (by omega)
  have key : ∀ k, k < l.length → w.cell? ⟨b, o + k, none⟩ = some (.string (bs (l.getD k []))) := fun k hk => hd k _ (by
    unfold txtCells
    rw [List.getElem?_map, List.getElem?_eq_getElem hk, List.getD, List.getElem?_eq_getElem hk]; rfl)
  exact ⟨b, o, ha, block_lt_of_cell (key 0 h0), key⟩
def confV (ts ps us ow : Value) (sn ss : List UInt8) (lim : Int) : Value := .agg #[ts, ps, us, .string (bs sn), .string (bs ss), .int .i64 lim, ow]
theorem has_take (l : List (List UInt8)) (n : List UInt8) (k : Nat) (hk : k < l.length) : (l.take (k + 1)).contains n = ((l.take k).contains n || l.getD k [] == n) := by
  rw [List.take_succ_eq_append_getElem hk, List.contains_append, List.getD, List.getElem?_eq_getElem hk]
  simp only [Option.getD_some, List.contains_cons, List.contains_nil, Bool.or_false]
  congr 1
  rw [Bool.eq_iff_iff, beq_iff_eq, beq_iff_eq]
  exact eq_comm
def RHas (l : List (List UInt8)) (n : List UInt8) (W : World) (i : Value) (wr : World) : Prop :=
  ∃ k : Nat, k ≤ l.length ∧ i = .int .i64 (k : Nat) ∧ Hid ((l.take k).contains n = false) ∧ wr = W
def RHasR (l : List (List UInt8)) (n : List UInt8) (W : World) (b i : Value) (wr : World) : Prop :=
  ∃ k : Nat, k ≤ l.length ∧ i = .int .i64 (k : Nat) ∧ b = .bool ((l.take k).contains n) ∧ wr = W
section
variable (ta : Option Addr) (tc : Nat) (ps us ow : Value) (sn ss : List UInt8) (lim : Int) (l : List (List UInt8)) (n : List UInt8) (w : World) (h : TSl w (.slice ta l.length tc) l) (hn : l.length ≤ 1048576)
include h hn
theorem has_any : Calls Tryz.prog 23 #[confV (.slice ta l.length tc) ps us ow sn ss lim, .string (bs n)] w fun e w' => e = .returned (.bool (l.contains n)) ∧ Below w.heap.size w w' := by
  obtain ⟨W1, hW1⟩ : ∃ W1, w.alloc (.cells #[.slice ta l.length tc, ps, us, .string (bs sn), .string (bs ss), .int .i64 lim, ow] 63) = W1 := ⟨_, rfl⟩
  have b1 : Below w.heap.size w W1 := by rw [← hW1]; exact (Below.refl _ _).alloc (Nat.le_refl _) _
  have t0 : W1.cell? ⟨w.heap.size, 0, none⟩ = some (.slice ta l.length tc) := by rw [← hW1]; simp
  have h1 := h.below b1
  clear h
  unfold confV
  go_enter Tryz.func23, Tryz.ntmps23
  go_wp2
  go_loopw [10] (fun i wr => RHas l n W1 i wr) (fun i _ => l.length - (intOf i).toNat)
  case atStart => exact ⟨0, by omega, rfl, hid rfl, rfl⟩
  case round =>
    obtain ⟨k, hk, rfl, HK, rfl⟩ := hrel
    by_cases hlt : k < l.length
    · obtain ⟨b, o, rfl, hbl, hcell⟩ := h1.open_ (by omega)
      have g0 := hcell k hlt
      have HT := hid (has_take l n k hlt)
      by_cases he : l.getD k [] = n
      · have hbe : (l.getD k [] == n) = true := beq_iff_eq.2 he
        have HE := hid (show l.contains n = true by
          rw [List.contains_iff_mem, ← he, List.getD, List.getElem?_eq_getElem hlt]
          exact List.getElem_mem hlt)
        clear hcell HT he
        generalize l.getD k [] = x at *
        go_wp2
        go_ret
        exact ⟨by rw [HE.out]; rfl, b1⟩
      · have hbe : (l.getD k [] == n) = false := beq_eq_false_iff_ne.2 he
        have HS := hid (show (l.take (k + 1)).contains n = false by rw [HT.out, HK.out, hbe]; rfl)
        clear hcell HT he
        generalize l.getD k [] = x at *
        go_wp2
        refine ⟨⟨k + 1, by omega, by go_num, hid HS.out, rfl⟩, by simp [intOf]; omega⟩
    · obtain rfl : k = l.length := by omega
      have hke := HK.out
      rw [List.take_length] at hke
      have HE := hid hke
      clear hke
      go_wp2
      go_ret
      exact ⟨by rw [HE.out]; rfl, b1⟩
theorem rhas_any : Calls Tryz.prog 24 #[confV (.slice ta l.length tc) ps us ow sn ss lim, .string (bs n)] w fun e w' => e = .returned (.bool (l.contains n)) ∧ Below w.heap.size w w' := by
  obtain ⟨W1, hW1⟩ : ∃ W1, w.alloc (.cells #[.slice ta l.length tc, ps, us, .string (bs sn), .string (bs ss), .int .i64 lim, ow] 63) = W1 := ⟨_, rfl⟩
  have b1 : Below w.heap.size w W1 := by rw [← hW1]; exact (Below.refl _ _).alloc (Nat.le_refl _) _
  have t0 : W1.cell? ⟨w.heap.size, 0, none⟩ = some (.slice ta l.length tc) := by rw [← hW1]; simp
  have h1 := h.below b1
  clear h
  unfold confV
  go_enter Tryz.func24, Tryz.ntmps24
  go_wp2
  go_loopw [5, 10] (fun b i wr => RHasR l n W1 b i wr) (fun _ i _ => l.length - (intOf i).toNat)
  case atStart => exact ⟨0, by omega, rfl, rfl, rfl⟩
  case round =>
    obtain ⟨k, hk, rfl, rfl, rfl⟩ := hrel
    by_cases hlt : k < l.length
    · obtain ⟨b, o, rfl, hbl, hcell⟩ := h1.open_ (by omega)
      have g0 := hcell k hlt
      have HT := hid (has_take l n k hlt)
      clear hcell
      cases hc : (l.take k).contains n with
      | true =>
        rw [hc] at HT
        go_wp2
        refine ⟨⟨k + 1, by omega, by go_num, by rw [HT.out]; rfl, rfl⟩, by simp [intOf]; omega⟩
      | false =>
        rw [hc] at HT
        generalize l.getD k [] = x at *
        go_wp2
        refine ⟨⟨k + 1, by omega, by go_num, by rw [HT.out]; rfl, rfl⟩, by simp [intOf]; omega⟩
    · obtain rfl : k = l.length := by omega
      rw [List.take_length]
      obtain ⟨r, hr⟩ : ∃ r, l.contains n = r := ⟨_, rfl⟩
      have HR := hid hr
      rw [hr]
      clear hr h1
      go_wp2
      go_ret
      exact ⟨by rw [HR.out]; rfl, b1⟩
end
end Go.Proofs.YtfeenkofnbefaaaGreatDoor
