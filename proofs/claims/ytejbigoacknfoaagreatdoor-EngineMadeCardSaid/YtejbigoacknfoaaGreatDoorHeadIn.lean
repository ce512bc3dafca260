/- The document's faults: Good, Bare, Is. -/
import Derived.Test.YtejbigoacknfoaaGreatDoorProg
import Derived.Test.YtejbigoacknfoaaGreatDoorBase
import Derived.Test.YtejbigoacknfoaaGreatDoorHeadFields
import Derived.Test.YtejbigoacknfoaaGreatDoorField
import Derived.Test.YtejbigoacknfoaaGreatDoorTell
set_option linter.unusedSectionVars false
set_option linter.unusedSimpArgs false
set_option linter.unusedVariables false
namespace Go.Proofs.YtejbigoacknfoaaGreatDoor
open Go.RowKit
set_option linter.unusedVariables false
set_option maxRecDepth 100000
/-- a fault by value -/
def faultV (k : Nat) (pl : Int) : Value := .agg #[.int .i64 (k : Nat), .int .i64 pl]
theorem good_any (w : World) :
    Calls Tryz.prog 58 #[] w fun e w' => e = .returned (.agg #[.int .i64 0, .int .i64 (-1)]) ∧ Below w.heap.size w w' := by
  go_enter Tryz.func58, Tryz.ntmps58
  go_wp2
  exact bodyPost_ret (v := .agg #[.int .i64 0, .int .i64 (-1)]) (by simp [results, Tryz.results58, go_sem]) rfl ⟨rfl, (Below.refl _ _).alloc (Nat.le_refl _) _⟩
theorem bareF_any (k : Int) (w : World) :
    Calls Tryz.prog 54 #[.int .i64 k] w fun e w' => e = .returned (.agg #[.int .i64 k, .int .i64 (-1)]) ∧ Below w.heap.size w w' := by
  go_enter Tryz.func54, Tryz.ntmps54
  go_wp2
  exact bodyPost_ret (v := .agg #[.int .i64 k, .int .i64 (-1)]) (by simp [results, Tryz.results54, go_sem]) rfl ⟨rfl, (Below.refl _ _).alloc (Nat.le_refl _) _⟩
end Go.Proofs.YtejbigoacknfoaaGreatDoor

namespace Go.Proofs.YtejbigoacknfoaaGreatDoor
open Go Go.RowKit
set_option linter.unusedVariables false
set_option linter.unusedSectionVars false
set_option linter.unusedSimpArgs false
theorem bv_andnot (x y : BitVec 64) : (x &&& ~~~y).toNat = 0 ↔ x &&& y = x := by
  constructor
  · intro h
    have h : x &&& ~~~y = 0#64 := BitVec.eq_of_toNat_eq (by simpa using h)
    refine BitVec.eq_of_getLsbD_eq fun i hi => ?_
    have := congrArg (fun z : BitVec 64 => z.getLsbD i) h
    simp only [BitVec.getLsbD_and, BitVec.getLsbD_not, BitVec.getLsbD_zero, hi, decide_true, Bool.true_and] at this ⊢
    cases hx : x.getLsbD i <;> cases hy : y.getLsbD i <;> simp [hx, hy] at this ⊢
  · intro h
    have : x &&& ~~~y = 0#64 := by
      refine BitVec.eq_of_getLsbD_eq fun i hi => ?_
      have := congrArg (fun z : BitVec 64 => z.getLsbD i) h
      simp only [BitVec.getLsbD_and, BitVec.getLsbD_not, BitVec.getLsbD_zero, hi, decide_true, Bool.true_and] at this ⊢
      cases hx : x.getLsbD i <;> cases hy : y.getLsbD i <;> simp [hx, hy] at this ⊢
    rw [this]; rfl
theorem bv_or (x y : BitVec 64) : x ||| y = y ↔ x &&& y = x := by
  constructor
  · intro h
    refine BitVec.eq_of_getLsbD_eq fun i hi => ?_
    have := congrArg (fun z : BitVec 64 => z.getLsbD i) h
    simp only [BitVec.getLsbD_and, BitVec.getLsbD_or] at this ⊢
    cases hx : x.getLsbD i <;> cases hy : y.getLsbD i <;> simp [hx, hy] at this ⊢
  · intro h
    refine BitVec.eq_of_getLsbD_eq fun i hi => ?_
    have := congrArg (fun z : BitVec 64 => z.getLsbD i) h
    simp only [BitVec.getLsbD_and, BitVec.getLsbD_or] at this ⊢
    cases hx : x.getLsbD i <;> cases hy : y.getLsbD i <;> simp [hx, hy] at this ⊢
/-- flags that are not in a mask -/
def extra (f m : Nat) : Bool := decide (f &&& m ≠ f)
theorem nat_bv (f m : Nat) (hf : f < 9223372036854775808) (hm : m < 256) : (BitVec.ofNat 64 f &&& BitVec.ofNat 64 m = BitVec.ofNat 64 f) ↔ f &&& m = f := by
  rw [← BitVec.toNat_inj, BitVec.toNat_and, BitVec.toNat_ofNat, BitVec.toNat_ofNat, Nat.mod_eq_of_lt (show f < 2 ^ 64 by omega), Nat.mod_eq_of_lt (show m < 2 ^ 64 by omega)]
theorem andnot_flags (f m : Nat) (hf : f < 9223372036854775808) (hm : m < 256) : (bits .andNot .i64 (f : Int) (m : Int) != 0) = extra f m := by
  unfold bits
  show (IntKind.i64.wrap (((BitVec.ofInt 64 (f : Int) &&& ~~~ BitVec.ofInt 64 (m : Int)).toNat : Nat) : Int) != 0) = _
  have h1 := bv_andnot (BitVec.ofNat 64 f) (BitVec.ofNat 64 m)
  rw [nat_bv f m hf hm] at h1
  rw [BitVec.ofInt_natCast, BitVec.ofInt_natCast]
  have hle : (BitVec.ofNat 64 f &&& ~~~ BitVec.ofNat 64 m).toNat ≤ f := by
    rw [BitVec.toNat_and, BitVec.toNat_ofNat, Nat.mod_eq_of_lt (show f < 2 ^ 64 by omega)]
    exact Nat.and_le_left
  generalize (BitVec.ofNat 64 f &&& ~~~ BitVec.ofNat 64 m).toNat = z at *
  have hw : IntKind.i64.wrap (z : Int) = z := by rw [IntKind.wrap_i64]; omega
  rw [hw, extra]
  by_cases h : f &&& m = f
  · simp [h, h1.2 h]
  · have : z ≠ 0 := fun e => h (h1.1 e)
    simp [h, this]
theorem or_flags (f m : Nat) (hf : f < 9223372036854775808) (hm : m < 256) : (bits .or .i64 (f : Int) (m : Int) != (m : Int)) = extra f m := by
  unfold bits
  show (IntKind.i64.wrap (((BitVec.ofInt 64 (f : Int) ||| BitVec.ofInt 64 (m : Int)).toNat : Nat) : Int) != (m : Int)) = _
  have h1 := bv_or (BitVec.ofNat 64 f) (BitVec.ofNat 64 m)
  rw [nat_bv f m hf hm, ← BitVec.toNat_inj, BitVec.toNat_ofNat m, Nat.mod_eq_of_lt (show m < 2 ^ 64 by omega)] at h1
  rw [BitVec.ofInt_natCast, BitVec.ofInt_natCast]
  have hlt : (BitVec.ofNat 64 f ||| BitVec.ofNat 64 m).toNat < 2 ^ 63 := by
    rw [BitVec.toNat_or, BitVec.toNat_ofNat, BitVec.toNat_ofNat, Nat.mod_eq_of_lt (show f < 2 ^ 64 by omega), Nat.mod_eq_of_lt (show m < 2 ^ 64 by omega)]
    exact Nat.or_lt_two_pow (by omega) (by omega)
  generalize (BitVec.ofNat 64 f ||| BitVec.ofNat 64 m).toNat = z at *
  have hw : IntKind.i64.wrap (z : Int) = z := by rw [IntKind.wrap_i64]; omega
  rw [hw, extra]
  by_cases h : f &&& m = f
  · simp [h, h1.2 h]
  · have : z ≠ m := fun e => h (h1.1 e)
    have h2 : ¬ (z : Int) = (m : Int) := by omega
    simp [h, h2]
/-- the first value that needs more bytes than its field has -/
def firstBad : List FR → List Nat → Nat → Option Nat
  | f :: fs, v :: vs, i => if 256 ^ f.size ≤ v then some i else firstBad fs vs (i + 1)
  | _, _, _ => none
theorem firstBad_drop (fs : List FR) (vs : List Nat) (k : Nat) (f : FR) (v : Nat) (hf : fs[k]? = some f) (hv : vs[k]? = some v) :
    firstBad (fs.drop k) (vs.drop k) k = if 256 ^ f.size ≤ v then some k else firstBad (fs.drop (k + 1)) (vs.drop (k + 1)) (k + 1) := by
  obtain ⟨h1, h2⟩ := List.getElem?_eq_some_iff.1 hf
  obtain ⟨h3, h4⟩ := List.getElem?_eq_some_iff.1 hv
  rw [List.drop_eq_getElem_cons h1, List.drop_eq_getElem_cons h3, firstBad, h2, h4]
def wrongH (op : Int) (now : Bool) (flags : Int) (m : Nat) : Bool := (now && decide (32 ≤ op)) || decide (flags < 0) || extra flags.toNat m
/-- what is wrong with a head, and where -/
def rightH (op : Int) (now : Bool) (flags : Int) (vs : List Nat) : Nat × Int :=
  match findH op with
  | none => (1, -1)
  | some r => if wrongH op now flags r.flags then (3, -1) else if r.fields.length ≠ vs.length then (7, -1) else
    match firstBad r.fields vs 0 with
    | some i => (2, (i : Int))
    | none => (0, -1)
def u64Cells (vs : List Nat) : List Value := vs.map fun (x : Nat) => Value.int .u64 (x : Int)
/-- a head by value -/
def headV (op : Int) (now : Bool) (flags : Int) (v : Value) : Value := .agg #[.int .i64 op, .bool now, .int .i64 flags, v]
end Go.Proofs.YtejbigoacknfoaaGreatDoor
