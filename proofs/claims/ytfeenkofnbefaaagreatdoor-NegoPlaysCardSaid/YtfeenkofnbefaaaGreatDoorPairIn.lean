/- What may be a pair's key: the program's word. -/
import Derived.Test.YtfeenkofnbefaaaGreatDoorPairVal
import Derived.Test.YtfeenkofnbefaaaGreatDoorProg
import Derived.Test.YtfeenkofnbefaaaGreatDoorBase
import Derived.Deep.SlicePairs
import Derived.OpenShut
set_option linter.unusedSectionVars false
set_option linter.unusedSimpArgs false
set_option linter.unusedVariables false
namespace Go.Proofs.YtfeenkofnbefaaaGreatDoor
open Go.RowKit
set_option linter.unusedVariables false
set_option maxRecDepth 100000
def great (b : UInt8) : Bool := decide (65 ≤ b.toNat) && decide (b.toNat ≤ 90)
def more (b : UInt8) : Bool := (decide (97 ≤ b.toNat) && decide (b.toNat ≤ 122)) || (decide (48 ≤ b.toNat) && decide (b.toNat ≤ 57)) || decide (0 ≤ Lib.indexByte [46, 45, 43, 64, 95] b)
/-- the byte at place i may stand in a key -/
def kOk (i : Nat) (b : UInt8) : Bool := great b || (decide (0 < i) && more b)
def keyFrom : Nat → List UInt8 → Bool
  | _, [] => true
  | i, b :: l => kOk i b && keyFrom (i + 1) l
def isKey (l : List UInt8) : Bool := keyFrom 0 l && decide (1 ≤ l.length) && decide (l.length ≤ 63)
set_option maxHeartbeats 4000000 in
theorem key_any (l : List UInt8) (w : World) (hl : l.length ≤ 9223372036854775807) :
    Calls Tryz.prog 92 #[.string (bs l)] w fun e w' => e = .returned (.bool (isKey l)) ∧ w' = w := by
  have hs : (⟨#[46, 45, 43, 64, 95]⟩ : ByteArray) = bs [46, 45, 43, 64, 95] := rfl
  go_enter Tryz.func92, Tryz.ntmps92
  go_wp2
  go_loopw [8] (fun i wr => ∃ k : Nat, k ≤ l.length ∧ i = .int .i64 k ∧ keyFrom 0 l = keyFrom k (l.drop k) ∧ wr = w) (fun i _ => l.length - (intOf i).toNat)
  case atStart => exact ⟨0, by omega, rfl, rfl, rfl⟩
  case round =>
    obtain ⟨k, hk, rfl, hall, rfl⟩ := hrel
    by_cases hlt : k < l.length
    · have hx : l[k].toNat < 256 := l[k].toNat_lt
      rw [List.drop_eq_getElem_cons hlt, keyFrom] at hall
      have Hall := hid hall; clear hall
      have hi : (k : Int) < (l.length : Int) := by omega
      have c1 := fun w => hid (sIndexByte_any [46, 45, 43, 64, 95] l[k] w (by simp))
      have gd : great l[k] = (decide (65 ≤ l[k].toNat) && decide (l[k].toNat ≤ 90)) := rfl
      have md : more l[k] = ((decide (97 ≤ l[k].toNat) && decide (l[k].toNat ≤ 122)) || (decide (48 ≤ l[k].toNat) && decide (l[k].toNat ≤ 57)) || decide (0 ≤ Lib.indexByte [46, 45, 43, 64, 95] l[k])) := rfl
      have Gd := hid gd; have Md := hid md; clear gd md
      generalize Lib.indexByte [46, 45, 43, 64, 95] l[k] = ib at *
      by_cases h65 : 65 ≤ l[k].toNat ∧ l[k].toNat ≤ 90
      · have hk1 : kOk k l[k] = true := by rw [kOk, Gd.out]; simp; omega
        rw [hk1] at Hall
        obtain ⟨h65a, h65b⟩ := h65
        go_wp2
        go_roundw
        case rel => exact ⟨k + 1, by omega, by go_num, by rw [Hall.out]; simp, trivial⟩
        case measure => simp [intOf]; omega
      · have hg : great l[k] = false := by rw [Gd.out]; simp; omega
        by_cases h0 : k = 0
        · have hk1 : kOk k l[k] = false := by rw [kOk, hg]; simp [h0]
          rw [hk1] at Hall
          subst h0
          rcases Nat.lt_or_ge (l[0]'hlt).toNat 65 with h | h
          · go_wp2
            go_ret
            exact ⟨by rw [isKey, Hall.out]; simp, rfl⟩
          · have h' : 90 < (l[0]'hlt).toNat := by omega
            have hb : decide (((l[0]'hlt).toNat : Int) ≤ 90) = false := decide_eq_false (by omega)
            have hb2 : ¬ ((l[0]'hlt).toNat : Int) ≤ 90 := by omega
            go_wp2
            go_ret
            exact ⟨by rw [isKey, Hall.out]; simp, rfl⟩
        · have hkI : ((k : Int) == 0) = false := by rw [beq_eq_false_iff_ne]; omega
          have hkO : kOk k l[k] = more l[k] := by rw [kOk, hg]; simp; omega
          rw [hkO] at Hall
          have hgI : (65 : Int) ≤ l[k].toNat → ¬ (l[k].toNat : Int) ≤ 90 := by omega
          by_cases hlow : 97 ≤ l[k].toNat ∧ l[k].toNat ≤ 122
          · have hm : more l[k] = true := by rw [Md.out]; simp; omega
            rw [hm] at Hall
            obtain ⟨u1, u2⟩ := hlow
            have v1 : (65 : Int) ≤ l[k].toNat := by omega
            have v2 : ¬ (l[k].toNat : Int) ≤ 90 := by omega
            go_wp2
            go_roundw
            case rel => exact ⟨k + 1, by omega, by go_num, by rw [Hall.out]; simp, trivial⟩
            case measure => simp [intOf]; omega
          · have hm : more l[k] = ((decide (48 ≤ l[k].toNat) && decide (l[k].toNat ≤ 57)) || decide (0 ≤ ib)) := by
              rw [Md.out]
              have : (decide (97 ≤ l[k].toNat) && decide (l[k].toNat ≤ 122)) = false := by simp; omega
              rw [this]; rfl
            clear Md Gd hgI
            by_cases hdig : 48 ≤ l[k].toNat ∧ l[k].toNat ≤ 57
            · have hm2 : more l[k] = true := by rw [hm]; simp; omega
              rw [hm2] at Hall
              clear hm hm2
              have x1 : ¬ (65 : Int) ≤ l[k].toNat := by omega
              have x2 : (l[k].toNat : Int) ≤ 90 := by omega
              have x3 : ¬ (97 : Int) ≤ l[k].toNat := by omega
              have x4 : (l[k].toNat : Int) ≤ 122 := by omega
              have x5 : (48 : Int) ≤ l[k].toNat := by omega
              have x6 : (l[k].toNat : Int) ≤ 57 := by omega
              clear hlow h65 hdig
              go_wp2
              go_roundw
              case rel => exact ⟨k + 1, by omega, by go_num, by rw [Hall.out]; simp, trivial⟩
              case measure => simp [intOf]; omega
            · have hm2 : more l[k] = decide (0 ≤ ib) := by
                rw [hm]
                have : (decide (48 ≤ l[k].toNat) && decide (l[k].toNat ≤ 57)) = false := by simp; omega
                rw [this]; rfl
              clear hm
              by_cases hib : 0 ≤ ib
              · rw [hm2, decide_eq_true hib] at Hall
                clear hm2
                rcases (show l[k].toNat < 48 ∨ (57 < l[k].toNat ∧ l[k].toNat < 65) ∨ (90 < l[k].toNat ∧ l[k].toNat < 97) ∨ 122 < l[k].toNat by omega) with h | h | h | h
                · have x1 : ¬ (65 : Int) ≤ l[k].toNat := by omega
                  have x2 : (l[k].toNat : Int) ≤ 90 := by omega
                  have x3 : ¬ (97 : Int) ≤ l[k].toNat := by omega
                  have x4 : (l[k].toNat : Int) ≤ 122 := by omega
                  have x5 : ¬ (48 : Int) ≤ l[k].toNat := by omega
                  have x6 : (l[k].toNat : Int) ≤ 57 := by omega
                  clear hlow h65 hdig h
                  go_wp2_with (go_at_call 124; refine (c1 _).out.mono ?_; rintro e w1 ⟨rfl, rfl⟩)
                  go_roundw
                  case rel => exact ⟨k + 1, by omega, by go_num, by rw [Hall.out]; simp, trivial⟩
                  case measure => simp [intOf]; omega
                · have x1 : ¬ (65 : Int) ≤ l[k].toNat := by omega
                  have x2 : (l[k].toNat : Int) ≤ 90 := by omega
                  have x3 : ¬ (97 : Int) ≤ l[k].toNat := by omega
                  have x4 : (l[k].toNat : Int) ≤ 122 := by omega
                  have x5 : (48 : Int) ≤ l[k].toNat := by omega
                  have x6 : ¬ (l[k].toNat : Int) ≤ 57 := by omega
                  clear hlow h65 hdig h
                  go_wp2_with (go_at_call 124; refine (c1 _).out.mono ?_; rintro e w1 ⟨rfl, rfl⟩)
                  go_roundw
                  case rel => exact ⟨k + 1, by omega, by go_num, by rw [Hall.out]; simp, trivial⟩
                  case measure => simp [intOf]; omega
                · have x1 : (65 : Int) ≤ l[k].toNat := by omega
                  have x2 : ¬ (l[k].toNat : Int) ≤ 90 := by omega
                  have x3 : ¬ (97 : Int) ≤ l[k].toNat := by omega
                  have x4 : (l[k].toNat : Int) ≤ 122 := by omega
                  have x5 : (48 : Int) ≤ l[k].toNat := by omega
                  have x6 : ¬ (l[k].toNat : Int) ≤ 57 := by omega
                  clear hlow h65 hdig h
                  go_wp2_with (go_at_call 124; refine (c1 _).out.mono ?_; rintro e w1 ⟨rfl, rfl⟩)
                  go_roundw
                  case rel => exact ⟨k + 1, by omega, by go_num, by rw [Hall.out]; simp, trivial⟩
                  case measure => simp [intOf]; omega
                · have x1 : (65 : Int) ≤ l[k].toNat := by omega
                  have x2 : ¬ (l[k].toNat : Int) ≤ 90 := by omega
                  have x3 : (97 : Int) ≤ l[k].toNat := by omega
                  have x4 : ¬ (l[k].toNat : Int) ≤ 122 := by omega
                  have x5 : (48 : Int) ≤ l[k].toNat := by omega
                  have x6 : ¬ (l[k].toNat : Int) ≤ 57 := by omega
                  clear hlow h65 hdig h
                  go_wp2_with (go_at_call 124; refine (c1 _).out.mono ?_; rintro e w1 ⟨rfl, rfl⟩)
                  go_roundw
                  case rel => exact ⟨k + 1, by omega, by go_num, by rw [Hall.out]; simp, trivial⟩
                  case measure => simp [intOf]; omega
              · have hib' : ib < 0 := by omega
                rw [hm2, decide_eq_false hib] at Hall
                clear hm2
                have hib2 : decide (0 ≤ ib) = false := decide_eq_false hib
                rcases (show l[k].toNat < 48 ∨ (57 < l[k].toNat ∧ l[k].toNat < 65) ∨ (90 < l[k].toNat ∧ l[k].toNat < 97) ∨ 122 < l[k].toNat by omega) with h | h | h | h
                · have x1 : ¬ (65 : Int) ≤ l[k].toNat := by omega
                  have x2 : (l[k].toNat : Int) ≤ 90 := by omega
                  have x3 : ¬ (97 : Int) ≤ l[k].toNat := by omega
                  have x4 : (l[k].toNat : Int) ≤ 122 := by omega
                  have x5 : ¬ (48 : Int) ≤ l[k].toNat := by omega
                  have x6 : (l[k].toNat : Int) ≤ 57 := by omega
                  clear hlow h65 hdig h
                  go_wp2_with (go_at_call 124; refine (c1 _).out.mono ?_; rintro e w1 ⟨rfl, rfl⟩)
                  go_ret
                  exact ⟨by rw [isKey, Hall.out]; simp, rfl⟩
                · have x1 : ¬ (65 : Int) ≤ l[k].toNat := by omega
                  have x2 : (l[k].toNat : Int) ≤ 90 := by omega
                  have x3 : ¬ (97 : Int) ≤ l[k].toNat := by omega
                  have x4 : (l[k].toNat : Int) ≤ 122 := by omega
                  have x5 : (48 : Int) ≤ l[k].toNat := by omega
                  have x6 : ¬ (l[k].toNat : Int) ≤ 57 := by omega
                  clear hlow h65 hdig h
                  go_wp2_with (go_at_call 124; refine (c1 _).out.mono ?_; rintro e w1 ⟨rfl, rfl⟩)
                  go_ret
                  exact ⟨by rw [isKey, Hall.out]; simp, rfl⟩
                · have x1 : (65 : Int) ≤ l[k].toNat := by omega
                  have x2 : ¬ (l[k].toNat : Int) ≤ 90 := by omega
                  have x3 : ¬ (97 : Int) ≤ l[k].toNat := by omega
                  have x4 : (l[k].toNat : Int) ≤ 122 := by omega
                  have x5 : (48 : Int) ≤ l[k].toNat := by omega
                  have x6 : ¬ (l[k].toNat : Int) ≤ 57 := by omega
                  clear hlow h65 hdig h
                  go_wp2_with (go_at_call 124; refine (c1 _).out.mono ?_; rintro e w1 ⟨rfl, rfl⟩)
                  go_ret
                  exact ⟨by rw [isKey, Hall.out]; simp, rfl⟩
                · have x1 : (65 : Int) ≤ l[k].toNat := by omega
                  have x2 : ¬ (l[k].toNat : Int) ≤ 90 := by omega
                  have x3 : (97 : Int) ≤ l[k].toNat := by omega
                  have x4 : ¬ (l[k].toNat : Int) ≤ 122 := by omega
                  have x5 : (48 : Int) ≤ l[k].toNat := by omega
                  have x6 : ¬ (l[k].toNat : Int) ≤ 57 := by omega
                  clear hlow h65 hdig h
                  go_wp2_with (go_at_call 124; refine (c1 _).out.mono ?_; rintro e w1 ⟨rfl, rfl⟩)
                  go_ret
                  exact ⟨by rw [isKey, Hall.out]; simp, rfl⟩
    · obtain rfl : k = l.length := by omega
      rw [List.drop_length] at hall
      have Hall := hid hall; clear hall
      by_cases hn : l = []
      · subst hn
        go_wp2
        go_ret
        exact ⟨rfl, rfl⟩
      · have hp := List.length_pos_iff.2 hn
        have he : l.isEmpty = false := by simpa using hn
        have hk : isKey l = decide (l.length ≤ 63) := by
          rw [isKey, Hall.out, keyFrom]; simp; omega
        have Hk := hid hk; clear hk
        go_wp2
        go_ret
        refine ⟨?_, rfl⟩
        rw [Hk.out]
        simp
        try omega
end Go.Proofs.YtfeenkofnbefaaaGreatDoor

namespace Go.Proofs.YtfeenkofnbefaaaGreatDoor
open Go.RowKit
set_option linter.unusedVariables false
set_option maxRecDepth 100000
/-- a fault by value -/
def faultV (k : Nat) (pl : Int) : Value := .agg #[.int .i64 (k : Nat), .int .i64 pl]
theorem good_any (w : World) :
    Calls Tryz.prog 60 #[] w fun e w' => e = .returned (.agg #[.int .i64 0, .int .i64 (-1)]) ∧ Below w.heap.size w w' := by
  go_enter Tryz.func60, Tryz.ntmps60
  go_wp2
  exact bodyPost_ret (v := .agg #[.int .i64 0, .int .i64 (-1)]) (by simp [results, Tryz.results60, go_sem]) rfl ⟨rfl, (Below.refl _ _).alloc (Nat.le_refl _) _⟩
theorem bareF_any (k : Int) (w : World) :
    Calls Tryz.prog 55 #[.int .i64 k] w fun e w' => e = .returned (.agg #[.int .i64 k, .int .i64 (-1)]) ∧ Below w.heap.size w w' := by
  go_enter Tryz.func55, Tryz.ntmps55
  go_wp2
  exact bodyPost_ret (v := .agg #[.int .i64 k, .int .i64 (-1)]) (by simp [results, Tryz.results55, go_sem]) rfl ⟨rfl, (Below.refl _ _).alloc (Nat.le_refl _) _⟩
end Go.Proofs.YtfeenkofnbefaaaGreatDoor

namespace Go.Proofs.YtfeenkofnbefaaaGreatDoor
open Go.RowKit
set_option linter.unusedVariables false
abbrev PL := List (List UInt8 × List UInt8)
def pairCells (xs : PL) : List Value := xs.flatMap fun x => [.string (bs x.1), .string (bs x.2)]
theorem pairCells_length (xs : PL) : (pairCells xs).length = xs.length * 2 := by
  induction xs with
  | nil => rfl
  | cons x xs ih => simp only [pairCells, List.flatMap_cons, List.length_append, List.length_cons, List.length_nil] at ih ⊢; omega
theorem pairCells_snoc (xs : PL) (x : List UInt8 × List UInt8) : pairCells (xs ++ [x]) = pairCells xs ++ [.string (bs x.1), .string (bs x.2)] := by simp [pairCells]
theorem pairCells_append (xs ys : PL) : pairCells (xs ++ ys) = pairCells xs ++ pairCells ys := by simp [pairCells]
theorem pairCells_drop (xs : PL) (k : Nat) : pairCells (xs.drop k) = (pairCells xs).drop (k * 2) := by
  induction k generalizing xs with
  | zero => simp
  | succ k ih =>
    cases xs with
    | nil => simp [pairCells]
    | cons x xs =>
      have e : pairCells (x :: xs) = .string (bs x.1) :: .string (bs x.2) :: pairCells xs := rfl
      rw [List.drop_succ_cons, ih, e, show (k + 1) * 2 = k * 2 + 1 + 1 by omega, List.drop_succ_cons, List.drop_succ_cons]
theorem pairCells_one (xs : PL) : ∀ u ∈ pairCells xs, u.oneCell' = true := by
  intro u hu
  simp only [pairCells, List.mem_flatMap] at hu
  obtain ⟨x, _, hx⟩ := hu
  simp at hx
  rcases hx with rfl | rfl <;> rfl
theorem pairCells_at (xs : PL) (k : Nat) (h : k < xs.length) : (pairCells xs)[2 * k]? = some (.string (bs (xs.getD k ([], [])).1)) ∧ (pairCells xs)[2 * k + 1]? = some (.string (bs (xs.getD k ([], [])).2)) := by
  induction xs generalizing k with
  | nil => simp at h
  | cons x xs ih =>
    cases k with
    | zero => simp [pairCells]
    | succ k =>
      have := ih k (by simpa using h)
      have e : pairCells (x :: xs) = .string (bs x.1) :: .string (bs x.2) :: pairCells xs := rfl
      rw [e]
      simp only [show 2 * (k + 1) = 2 * k + 1 + 1 by omega, List.getElem?_cons_succ, List.getD_cons_succ]
      exact this
/-- a slice value that reads as pairs of texts -/
def PSl (w : World) (v : Value) (l : PL) : Prop := Sl w v 2 l.length (pairCells l)
theorem PSl.below {w w' : World} {v : Value} {l : PL} (h : PSl w v l) (hb : Below w.heap.size w w') : PSl w' v l := Sl.below h (by omega) hb
/-- sizes that a program's data have -/
def PBd (l : PL) : Prop := l.length ≤ 9223372036854775807 ∧ ∀ k, (l.getD k ([], [])).1.length ≤ 9223372036854775807 ∧ (l.getD k ([], [])).2.length ≤ 9223372036854775807
theorem PSl.open_ {w : World} {v : Value} {l : PL} (h : PSl w v l) : (l = [] ∧ ∃ a c, v = .slice a 0 c) ∨
    (0 < l.length ∧ ∃ b o c, v = .slice (some ⟨b, o, none⟩) l.length c ∧ b < w.heap.size ∧ ∀ k, k < l.length → w.cell? ⟨b, o + k * 2, none⟩ = some (.string (bs (l.getD k ([], [])).1)) ∧ w.cell? ⟨b, o + k * 2 + 1, none⟩ = some (.string (bs (l.getD k ([], [])).2))) := by
  obtain ⟨a, c, rfl, hl, hc⟩ := h
  by_cases h0 : l.length = 0
  · exact .inl ⟨List.eq_nil_of_length_eq_zero h0, a, c, by rw [h0]⟩
  · obtain ⟨b, o, rfl, hd⟩ := hc.resolve_left h0
    have hcell : ∀ k, k < l.length → w.cell? ⟨b, o + k * 2, none⟩ = some (.string (bs (l.getD k ([], [])).1)) ∧ w.cell? ⟨b, o + k * 2 + 1, none⟩ = some (.string (bs (l.getD k ([], [])).2)) := by
      intro k hk
      obtain ⟨e1, e2⟩ := pairCells_at l k hk
      have a := hd _ _ e1; have b := hd _ _ e2
      simp only [Nat.mul_comm k 2, Nat.add_assoc]
      exact ⟨a, b⟩
    exact .inr ⟨by omega, b, o, c, rfl, block_lt_of_cell (hcell 0 (by omega)).1, hcell⟩
theorem psl_of_owns {w : World} {base : Nat} {e : TypeId} {v : Value} {l : PL} (h : w.ownsRow base e 2 v l.length (pairCells l)) : PSl w v l := sl_of_owns h
/-- a slice that lies in memory made since -/
def FreshV (B : Nat) (v : Value) : Prop := ∀ a n c, v = .slice (some a) n c → B ≤ a.block
theorem freshV_nil (B : Nat) : FreshV B (.slice none 0 0) := fun a n c h => by cases h
theorem freshV_owns {w : World} {base : Nat} {e : TypeId} {size n : Nat} {v : Value} {xs : List Value} (h : w.ownsRow base e size v n xs) : FreshV base v := by
  rcases h.2 with ⟨rfl, rfl⟩ | ⟨g, cap, cur, rfl, hbg, _⟩
  · exact freshV_nil _
  · intro a n c h; cases h; exact hbg
/-- what reads as pairs, in memory made since, is not touched by a store into an older block -/
theorem PSl.setCell {B : Nat} {w : World} {v : Value} {l : PL} (h : PSl w v l) (hf : FreshV B v) {p : Addr} (hp : p.block < B) (u : Value) : PSl (w.setCell p u) v l := by
  obtain ⟨a, c, rfl, hl, hc⟩ := h
  refine ⟨a, c, rfl, hl, ?_⟩
  rcases hc with h0 | ⟨b, o, rfl, hd⟩
  · exact .inl h0
  · refine .inr ⟨b, o, rfl, fun j u' hu => ?_⟩
    have := hf _ _ _ rfl
    rw [World.cell?_setCell_other _ _ _ _ (by intro e; subst e; simp at hp this; omega)]
    exact hd j u' hu
theorem psl_nil (w : World) : PSl w (.slice none 0 0) [] := sl_nil w 2
def strB2 : Value → List UInt8 | .string s => s.data.toList | _ => []
open Go.ChangeShapes Go.WideShapes in
/-- a slice of a struct of two texts, opened -/
theorem psl_of_trod {H : Type} {enc : TypeId × Value → H} {W : World} {fuel : Nat} {T E : TypeId} {F : Array Field} {a0 : Option Addr} {len cap : Nat} {x : DataW H × List MemPlace}
    (hT : Tryz.prog.underlying T = some (.slice E)) (hE : Tryz.prog.underlying E = some (.struct F)) {f0 f1 : Field} (hF : F = #[f0, f1]) (ce : Tryz.prog.cellsOf E = 2) (o0 : f0.offset = 0) (o1 : f1.offset = 1)
    (t0 : f0.type = 9) (t1 : f1.type = 9)
    (h : DataW.trod enc Tryz.prog W 0 (fun _ => true) true fuel T (Value.slice a0 len cap).cells.toList = some x) : ∃ l, PSl W (.slice a0 len cap) l ∧ PBd l := by
  subst hF
  have cs : Tryz.prog.cellsOf 9 = 1 := by kernel_rfl
  rcases Go.Deep.open_slice_pairs hT hE ce o0 o1 (by rw [t0]; exact cs) (by rw [t1]; exact cs) h with ⟨hc, _⟩ | ⟨a, l, c, m, n, V0, V1, D0, D1, P0, P1, hc, _, hl, hm, hmm, _, hi⟩
  · simp [Value.cells] at hc
    obtain ⟨rfl, rfl, rfl⟩ := hc
    exact ⟨[], psl_nil W, by simp, by intro k; simp⟩
  · simp [Value.cells] at hc
    obtain ⟨rfl, rfl, rfl⟩ := hc
    simp only [if_true] at hmm
    have hi' : ∀ k, k < len → W.cell? (a.add (k * 2)) = some (.string (bs (strB2 (V0 k)))) ∧ W.cell? (a.add (k * 2 + 1)) = some (.string (bs (strB2 (V1 k)))) ∧ (strB2 (V0 k)).length ≤ maxLen ∧ (strB2 (V1 k)).length ≤ maxLen := by
      intro k hk
      obtain ⟨g0, g1, d0, d1⟩ := hi k (by omega)
      rw [t0] at d0; rw [t1] at d1
      obtain ⟨s, e0, _, ws⟩ := DataW.trod_string Tryz.underlying9 d0
      obtain ⟨s', e1, _, ws'⟩ := DataW.trod_string Tryz.underlying9 d1
      simp only [List.cons.injEq, and_true] at e0 e1
      rw [e0] at g0; rw [e1] at g1
      simp only [e0, e1, strB2]
      exact ⟨by rw [g0, bs_data], by rw [g1, bs_data], by simpa using ws, by simpa using ws'⟩
    refine ⟨(List.range len).map fun k => (strB2 (V0 k), strB2 (V1 k)), ⟨some a, cap, by simp, by rw [pairCells_length], ?_⟩, ?_⟩
    · by_cases h0 : len = 0
      · left; simp [h0]
      · right
        obtain ⟨ab, ao, asp⟩ := a
        have hsp : asp = none := by simpa [Addr.add] using World.cell?_spot (hi' 0 (by omega)).1
        subst hsp
        refine ⟨ab, ao, rfl, fun j u hu => ?_⟩
        have hj : j < len * 2 := by
          have := (List.getElem?_eq_some_iff.1 hu).1
          rw [pairCells_length] at this; simpa using this
        have key : ∀ k, k < len → (((List.range len).map fun k => (strB2 (V0 k), strB2 (V1 k))).getD k ([], [])) = (strB2 (V0 k), strB2 (V1 k)) := by
          intro k hk; rw [List.getD, List.getElem?_map, List.getElem?_range hk]; rfl
        rcases Nat.mod_two_eq_zero_or_one j with hm2 | hm2
        · obtain ⟨k, rfl⟩ : ∃ k, j = 2 * k := ⟨j / 2, by omega⟩
          have := (pairCells_at ((List.range len).map fun k => (strB2 (V0 k), strB2 (V1 k))) k (by simp; omega)).1
          rw [key k (by omega)] at this
          rw [this] at hu
          cases hu
          have g := (hi' k (by omega)).1
          rw [show (⟨ab, ao, none⟩ : Addr).add (k * 2) = ⟨ab, ao + 2 * k, none⟩ by unfold Addr.add; split <;> simp <;> omega] at g
          exact g
        · obtain ⟨k, rfl⟩ : ∃ k, j = 2 * k + 1 := ⟨j / 2, by omega⟩
          have := (pairCells_at ((List.range len).map fun k => (strB2 (V0 k), strB2 (V1 k))) k (by simp; omega)).2
          rw [key k (by omega)] at this
          rw [this] at hu
          cases hu
          have g := (hi' k (by omega)).2.1
          rw [show (⟨ab, ao, none⟩ : Addr).add (k * 2 + 1) = ⟨ab, ao + (2 * k + 1), none⟩ by unfold Addr.add; rw [if_neg (by omega)]; simp; omega] at g
          exact g
    · unfold maxLen at hm hi'
      refine ⟨by simp; omega, fun k => ?_⟩
      by_cases hk : k < len
      · rw [List.getD, List.getElem?_map, List.getElem?_range hk]
        exact ⟨(hi' k hk).2.2.1, (hi' k hk).2.2.2⟩
      · rw [List.getD, List.getElem?_eq_none (by simp; omega)]; simp
/-! ### what is wrong with pairs -/
def pairsRG : PL → Nat → Nat × Int
  | [], _ => (0, -1)
  | p :: l, i => if isKey p.1 = false then (5, i) else if isValue p.2 = false then (3, i) else pairsRG l (i + 1)
def pairsR (l : PL) : Nat × Int := if 60 < l.length then (4, -1) else pairsRG l 0
theorem drop_cons {α : Type} (l : List α) (k : Nat) (d : α) (h : k < l.length) : l.drop k = l.getD k d :: l.drop (k + 1) := by
  rw [List.drop_eq_getElem_cons h]; simp [List.getD, h]
theorem pairsRG_drop (l : PL) (k : Nat) (h : k < l.length) : pairsRG (l.drop k) k = if isKey (l.getD k ([], [])).1 = false then (5, (k : Int)) else if isValue (l.getD k ([], [])).2 = false then (3, (k : Int)) else pairsRG (l.drop (k + 1)) (k + 1) := by
  rw [drop_cons l k ([], []) h, pairsRG]
end Go.Proofs.YtfeenkofnbefaaaGreatDoor
