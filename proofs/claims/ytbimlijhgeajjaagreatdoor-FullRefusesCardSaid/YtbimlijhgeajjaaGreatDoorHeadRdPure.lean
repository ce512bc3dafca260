/- A head by value, and what is wrong with it: plain laws. -/
import Derived.Test.YtbimlijhgeajjaaGreatDoorField
import Derived.Test.YtbimlijhgeajjaaGreatDoorSplitPure
import Derived.Test.YtbimlijhgeajjaaGreatDoorPairKey
set_option linter.unusedSectionVars false
set_option linter.unusedSimpArgs false
set_option linter.unusedVariables false
namespace Go.Proofs.YtbimlijhgeajjaaGreatDoor
open Go Go.RowKit
set_option linter.unusedVariables false
set_option linter.unusedSectionVars false
set_option linter.unusedSimpArgs false
theorem bv_andnot (x y : BitVec 64) : (x &&& ~~~y).toNat = 0 ↔ x &&& y = x := by
  constructor
  · intro h
    have h : x &&& ~~~y = 0#64 := BitVec.eq_of_toNat_eq (by simpa using h)
    refine BitVec.eq_of_getLsbD_eq fun i hi => ?_
    have := congrArg (fun z : BitVec 64 => z.getLsbD i) h
    simp only [BitVec.getLsbD_and, BitVec.getLsbD_not, BitVec.getLsbD_zero, hi, decide_true, Bool.true_and] at this ⊢
    cases hx : x.getLsbD i <;> cases hy : y.getLsbD i <;> simp [hx, hy] at this ⊢
  · intro h
    have : x &&& ~~~y = 0#64 := by
      refine BitVec.eq_of_getLsbD_eq fun i hi => ?_
      have := congrArg (fun z : BitVec 64 => z.getLsbD i) h
      simp only [BitVec.getLsbD_and, BitVec.getLsbD_not, BitVec.getLsbD_zero, hi, decide_true, Bool.true_and] at this ⊢
      cases hx : x.getLsbD i <;> cases hy : y.getLsbD i <;> simp [hx, hy] at this ⊢
    rw [this]; rfl
theorem bv_or (x y : BitVec 64) : x ||| y = y ↔ x &&& y = x := by
  constructor
  · intro h
    refine BitVec.eq_of_getLsbD_eq fun i hi => ?_
    have := congrArg (fun z : BitVec 64 => z.getLsbD i) h
    simp only [BitVec.getLsbD_and, BitVec.getLsbD_or] at this ⊢
    cases hx : x.getLsbD i <;> cases hy : y.getLsbD i <;> simp [hx, hy] at this ⊢
  · intro h
    refine BitVec.eq_of_getLsbD_eq fun i hi => ?_
    have := congrArg (fun z : BitVec 64 => z.getLsbD i) h
    simp only [BitVec.getLsbD_and, BitVec.getLsbD_or] at this ⊢
    cases hx : x.getLsbD i <;> cases hy : y.getLsbD i <;> simp [hx, hy] at this ⊢
/-- flags that are not in a mask -/
def extra (f m : Nat) : Bool := decide (f &&& m ≠ f)
theorem nat_bv (f m : Nat) (hf : f < 9223372036854775808) (hm : m < 256) : (BitVec.ofNat 64 f &&& BitVec.ofNat 64 m = BitVec.ofNat 64 f) ↔ f &&& m = f := by
  rw [← BitVec.toNat_inj, BitVec.toNat_and, BitVec.toNat_ofNat, BitVec.toNat_ofNat, Nat.mod_eq_of_lt (show f < 2 ^ 64 by omega), Nat.mod_eq_of_lt (show m < 2 ^ 64 by omega)]
theorem andnot_flags (f m : Nat) (hf : f < 9223372036854775808) (hm : m < 256) : (bits .andNot .i64 (f : Int) (m : Int) != 0) = extra f m := by
  unfold bits
  show (IntKind.i64.wrap (((BitVec.ofInt 64 (f : Int) &&& ~~~ BitVec.ofInt 64 (m : Int)).toNat : Nat) : Int) != 0) = _
  have h1 := bv_andnot (BitVec.ofNat 64 f) (BitVec.ofNat 64 m)
  rw [nat_bv f m hf hm] at h1
  rw [BitVec.ofInt_natCast, BitVec.ofInt_natCast]
  have hle : (BitVec.ofNat 64 f &&& ~~~ BitVec.ofNat 64 m).toNat ≤ f := by
    rw [BitVec.toNat_and, BitVec.toNat_ofNat, Nat.mod_eq_of_lt (show f < 2 ^ 64 by omega)]
    exact Nat.and_le_left
  generalize (BitVec.ofNat 64 f &&& ~~~ BitVec.ofNat 64 m).toNat = z at *
  have hw : IntKind.i64.wrap (z : Int) = z := by rw [IntKind.wrap_i64]; omega
  rw [hw, extra]
  by_cases h : f &&& m = f
  · simp [h, h1.2 h]
  · have : z ≠ 0 := fun e => h (h1.1 e)
    simp [h, this]
theorem or_flags (f m : Nat) (hf : f < 9223372036854775808) (hm : m < 256) : (bits .or .i64 (f : Int) (m : Int) != (m : Int)) = extra f m := by
  unfold bits
  show (IntKind.i64.wrap (((BitVec.ofInt 64 (f : Int) ||| BitVec.ofInt 64 (m : Int)).toNat : Nat) : Int) != (m : Int)) = _
  have h1 := bv_or (BitVec.ofNat 64 f) (BitVec.ofNat 64 m)
  rw [nat_bv f m hf hm, ← BitVec.toNat_inj, BitVec.toNat_ofNat m, Nat.mod_eq_of_lt (show m < 2 ^ 64 by omega)] at h1
  rw [BitVec.ofInt_natCast, BitVec.ofInt_natCast]
  have hlt : (BitVec.ofNat 64 f ||| BitVec.ofNat 64 m).toNat < 2 ^ 63 := by
    rw [BitVec.toNat_or, BitVec.toNat_ofNat, BitVec.toNat_ofNat, Nat.mod_eq_of_lt (show f < 2 ^ 64 by omega), Nat.mod_eq_of_lt (show m < 2 ^ 64 by omega)]
    exact Nat.or_lt_two_pow (by omega) (by omega)
  generalize (BitVec.ofNat 64 f ||| BitVec.ofNat 64 m).toNat = z at *
  have hw : IntKind.i64.wrap (z : Int) = z := by rw [IntKind.wrap_i64]; omega
  rw [hw, extra]
  by_cases h : f &&& m = f
  · simp [h, h1.2 h]
  · have : z ≠ m := fun e => h (h1.1 e)
    have h2 : ¬ (z : Int) = (m : Int) := by omega
    simp [h, h2]
/-- the first value that needs more bytes than its field has -/
def firstBad : List FR → List Nat → Nat → Option Nat
  | f :: fs, v :: vs, i => if 256 ^ f.size ≤ v then some i else firstBad fs vs (i + 1)
  | _, _, _ => none
theorem firstBad_drop (fs : List FR) (vs : List Nat) (k : Nat) (f : FR) (v : Nat) (hf : fs[k]? = some f) (hv : vs[k]? = some v) :
    firstBad (fs.drop k) (vs.drop k) k = if 256 ^ f.size ≤ v then some k else firstBad (fs.drop (k + 1)) (vs.drop (k + 1)) (k + 1) := by
  obtain ⟨h1, h2⟩ := List.getElem?_eq_some_iff.1 hf
  obtain ⟨h3, h4⟩ := List.getElem?_eq_some_iff.1 hv
  rw [List.drop_eq_getElem_cons h1, List.drop_eq_getElem_cons h3, firstBad, h2, h4]
def wrongH (op : Int) (now : Bool) (flags : Int) (m : Nat) : Bool := (now && decide (32 ≤ op)) || decide (flags < 0) || extra flags.toNat m
/-- what is wrong with a head, and where -/
def rightH (op : Int) (now : Bool) (flags : Int) (vs : List Nat) : Nat × Int :=
  match findH op with
  | none => (1, -1)
  | some r => if wrongH op now flags r.flags then (3, -1) else if r.fields.length ≠ vs.length then (7, -1) else
    match firstBad r.fields vs 0 with
    | some i => (2, (i : Int))
    | none => (0, -1)
def u64Cells (vs : List Nat) : List Value := vs.map fun (x : Nat) => Value.int .u64 (x : Int)
/-- a head by value -/
def headV (op : Int) (now : Bool) (flags : Int) (v : Value) : Value := .agg #[.int .i64 op, .bool now, .int .i64 flags, v]
end Go.Proofs.YtbimlijhgeajjaaGreatDoor

namespace Go.Proofs.YtbimlijhgeajjaaGreatDoor
open Go Go.RowKit
set_option linter.unusedVariables false
/-- the place of the last of the first k fields that has the name, or -1 -/
def atN (fs : List FR) (n : List UInt8) : Nat → Int
  | 0 => -1
  | k + 1 => if (fs[k]?.map FR.name) = some n then (k : Int) else atN fs n k
theorem atN_step (fs : List FR) (n : List UInt8) (k : Nat) (f : FR) (h : fs[k]? = some f) : atN fs n (k + 1) = if f.name = n then (k : Int) else atN fs n k := by
  rw [atN, h]; simp
theorem atN_range (fs : List FR) (n : List UInt8) (k : Nat) : -1 ≤ atN fs n k ∧ atN fs n k < (k : Int) := by
  induction k with
  | zero => simp [atN]
  | succ k ih =>
    rw [atN]
    split <;> omega
/-- has one of the first k fields the name? -/
def hasN (fs : List FR) (n : List UInt8) (k : Nat) : Bool := (fs.take k).any fun f => decide (f.name = n)
theorem hasN_step (fs : List FR) (n : List UInt8) (k : Nat) (f : FR) (h : fs[k]? = some f) : hasN fs n (k + 1) = (hasN fs n k || decide (f.name = n)) := by
  obtain ⟨h1, h2⟩ := List.getElem?_eq_some_iff.1 h
  unfold hasN
  rw [List.take_succ_eq_append_getElem h1, h2]
  simp
theorem hasN_at (fs : List FR) (n : List UInt8) (k : Nat) (hk : k ≤ fs.length) : hasN fs n k = decide (0 ≤ atN fs n k) := by
  induction k with
  | zero => simp [hasN, atN]
  | succ k ih =>
    have hf : fs[k]? = some fs[k] := List.getElem?_eq_getElem (by omega)
    rw [hasN_step fs n k _ hf, atN_step fs n k _ hf, ih (by omega)]
    by_cases h : fs[k].name = n
    · simp [h]
    · simp [h]
theorem atN_name (fs : List FR) (n : List UInt8) (k j : Nat) (hk : k ≤ fs.length) (h : atN fs n k = (j : Int)) : (fs[j]?.map FR.name) = some n := by
  induction k with
  | zero => simp [atN] at h <;> omega
  | succ k ih =>
    rw [atN] at h
    split at h
    · rename_i hn
      obtain rfl : k = j := by omega
      exact hn
    · exact ih (by omega) h
def setN (g : List UInt8 → Nat) (n : List UInt8) (x : Nat) (m : List UInt8) : Nat := if m = n then x else g m
theorem map_setN (fs : List FR) (hd : (fs.map FR.name).Nodup) (g : List UInt8 → Nat) (n : List UInt8) (x : Nat) (j : Nat) (h : (fs[j]?.map FR.name) = some n) :
    fs.map (fun f => setN g n x f.name) = (fs.map (fun f => g f.name)).set j x := by
  refine List.ext_getElem? fun i => ?_
  rw [List.getElem?_map, List.getElem?_set]
  obtain ⟨f, hf, hfn⟩ := Option.map_eq_some_iff.1 h
  obtain ⟨hj, hj2⟩ := List.getElem?_eq_some_iff.1 hf
  by_cases hij : j = i
  · subst hij
    rw [if_pos rfl, if_pos (by simpa using hj), hf]
    simp [setN, hfn]
  · rw [if_neg hij, List.getElem?_map]
    cases hi : fs[i]? with
    | none => rfl
    | some f2 =>
      obtain ⟨hi1, hi2⟩ := List.getElem?_eq_some_iff.1 hi
      have hne : f2.name ≠ n := by
        intro e
        apply hij
        have h1 : (fs.map FR.name)[j]'(by simpa using hj) = n := by simp [hj2, hfn]
        have h2 : (fs.map FR.name)[i]'(by simpa using hi1) = n := by simp [hi2, e]
        exact (List.getElem_inj hd).1 (h1.trans h2.symm)
      simp [setN, hne]
theorem names_fine : headRows.all (fun r => decide ((r.fields.map FR.name).Nodup)) = true := by decide +kernel
theorem names_nodup (r : HR) (h : r ∈ headRows) : (r.fields.map FR.name).Nodup := by
  simpa using List.all_eq_true.1 names_fine r h
/-- the names told one by one: an error, or what each name has -/
def mkG (fs : List FR) (vs : List Nat) : List (List UInt8) → Nat → (List UInt8 → Nat) → Nat × List Nat
  | [], _, g => (0, fs.map fun f => g f.name)
  | n :: ns, i, g => if hasN fs n fs.length = false then (5, []) else match vs[i]? with
    | none => (7, [])
    | some x => mkG fs vs ns (i + 1) (setN g n x)
/-- what making a head tells -/
def makeH (op flags : Int) (ns : List (List UInt8)) (vs : List Nat) : Nat × Int × List Nat :=
  match findH op with
  | none => (1, -1, [])
  | some r => if (mkG r.fields vs ns 0 fun _ => 0).1 ≠ 0 then ((mkG r.fields vs ns 0 fun _ => 0).1, -1, [])
    else if (rightH op false flags (mkG r.fields vs ns 0 fun _ => 0).2).1 ≠ 0 then ((rightH op false flags (mkG r.fields vs ns 0 fun _ => 0).2).1, (rightH op false flags (mkG r.fields vs ns 0 fun _ => 0).2).2, [])
    else (0, -1, (mkG r.fields vs ns 0 fun _ => 0).2)
theorem mkG_drop (fs : List FR) (vs : List Nat) (ns : List (List UInt8)) (i : Nat) (g : List UInt8 → Nat) (n : List UInt8) (h : ns[i]? = some n) :
    mkG fs vs (ns.drop i) i g = if hasN fs n fs.length = false then (5, []) else match vs[i]? with
      | none => (7, [])
      | some x => mkG fs vs (ns.drop (i + 1)) (i + 1) (setN g n x) := by
  obtain ⟨h1, h2⟩ := List.getElem?_eq_some_iff.1 h
  rw [List.drop_eq_getElem_cons h1, h2, mkG]
theorem mkG_end (fs : List FR) (vs : List Nat) (ns : List (List UInt8)) (i : Nat) (g : List UInt8 → Nat) (h : ns.length ≤ i) : mkG fs vs (ns.drop i) i g = (0, fs.map fun f => g f.name) := by
  rw [List.drop_eq_nil_of_le h, mkG]
end Go.Proofs.YtbimlijhgeajjaaGreatDoor

namespace Go.Proofs.YtbimlijhgeajjaaGreatDoor
open Go Go.RowKit
set_option linter.unusedVariables false
/-- bytes with others put over them from a place on -/
def putAt (l : List UInt8) (k : Nat) (v : List UInt8) : List UInt8 := l.take k ++ v ++ l.drop (k + v.length)
theorem putAt_length (l : List UInt8) (k : Nat) (v : List UInt8) (h : k + v.length ≤ l.length) : (putAt l k v).length = l.length := by
  simp [putAt]; omega
/-- the fields' bytes, put over a head's -/
def writeF : List FR → List Nat → List UInt8 → List UInt8
  | f :: fs, x :: xs, l => writeF fs xs (putAt l f.at_ (be x f.size))
  | _, _, l => l
theorem writeF_drop (fs : List FR) (vs : List Nat) (l : List UInt8) (k : Nat) (f : FR) (v : Nat) (hf : fs[k]? = some f) (hv : vs[k]? = some v) :
    writeF (fs.drop k) (vs.drop k) l = writeF (fs.drop (k + 1)) (vs.drop (k + 1)) (putAt l f.at_ (be v f.size)) := by
  obtain ⟨h1, h2⟩ := List.getElem?_eq_some_iff.1 hf
  obtain ⟨h3, h4⟩ := List.getElem?_eq_some_iff.1 hv
  rw [List.drop_eq_getElem_cons h1, List.drop_eq_getElem_cons h3, writeF, h2, h4]
theorem writeF_end (fs : List FR) (vs : List Nat) (l : List UInt8) (k : Nat) (h : fs.length ≤ k) : writeF (fs.drop k) (vs.drop k) l = l := by
  rw [List.drop_eq_nil_of_le h]; rfl
theorem firstBad_fits (fs : List FR) (vs : List Nat) (i : Nat) (h : firstBad fs vs i = none) : ∀ (k : Nat) (f : FR) (x : Nat), fs[k]? = some f → vs[k]? = some x → x < 256 ^ f.size := by
  induction fs generalizing vs i with
  | nil => intro k f x hf; simp at hf
  | cons g fs ih =>
    intro k f x hf hx
    cases vs with
    | nil => simp at hx
    | cons y vs =>
      rw [firstBad] at h
      split at h
      · cases h
      · rename_i hn
        cases k with
        | zero =>
          simp only [List.getElem?_cons_zero, Option.some.injEq] at hf hx
          subst hf hx; omega
        | succ k => exact ih vs (i + 1) h k f x (by simpa using hf) (by simpa using hx)
/-- the first eight bytes -/
def head8 (op : Int) (now : Bool) (flags words data : Int) : List UInt8 :=
  [UInt8.ofNat (op.toNat + if now then 64 else 0), UInt8.ofNat flags.toNat, 0, 0, UInt8.ofNat words.toNat] ++ be data.toNat 3
def head48 (op : Int) (now : Bool) (flags words data : Int) : List UInt8 := head8 op now flags words data ++ List.replicate 40 0
theorem head48_length (op : Int) (now : Bool) (flags words data : Int) : (head48 op now flags words data).length = 48 := by
  simp [head48, head8, be_length]
/-- what writing a head tells: the text, what is wrong, and where -/
def writeH (op : Int) (now : Bool) (flags : Int) (vs : List Nat) (words data : Int) : List UInt8 × Nat × Int :=
  if (rightH op now flags vs).1 ≠ 0 then ([], rightH op now flags vs) else
  if words < 0 ∨ 255 < words ∨ data < 0 ∨ 16777215 < data then ([], 4, -1) else
  (writeF (hFields (findH op)) vs (head48 op now flags words data), 0, -1)
/-- a head that is right -/
structure FitH (op : Int) (now : Bool) (flags : Int) (vs : List Nat) (r : HR) : Prop where
  find : findH op = some r
  is : (r.op : Int) = op
  low : now = true → op < 32
  flags0 : 0 ≤ flags
  flags1 : flags ≤ 255
  len : r.fields.length = vs.length
  fits : ∀ (k : Nat) (f : FR) (x : Nat), r.fields[k]? = some f → vs[k]? = some x → x < 256 ^ f.size
  all : rightH op now flags vs = (0, -1)
theorem extra_false (f m : Nat) (h : extra f m = false) (hm : m < 256) : f < 256 := by
  have h : f &&& m = f := by simpa [extra] using h
  have : f &&& m ≤ m := Nat.and_le_right
  omega
theorem right_fit (op : Int) (now : Bool) (flags : Int) (vs : List Nat) (h : (rightH op now flags vs).1 = 0) : ∃ r, FitH op now flags vs r := by
  unfold rightH at h
  cases hf : findH op with
  | none => rw [hf] at h; cases h
  | some r =>
    rw [hf] at h
    simp only at h
    split at h
    · cases h
    rename_i hw
    split at h
    · cases h
    rename_i hl
    have hwr := hw
    simp only [wrongH, Bool.or_eq_true, Bool.and_eq_true, decide_eq_true_eq, not_or, not_and] at hw
    obtain ⟨⟨w1, w2⟩, w3⟩ := hw
    have hfl := (head_fine r (findH_mem hf)).2.2.2.2.2.1
    have he := extra_false flags.toNat r.flags (by simpa using w3) hfl
    cases hb : firstBad r.fields vs 0 with
    | some i => rw [hb] at h; simp at h
    | none =>
      refine ⟨r, hf, ?_, fun hn => by have := w1 hn; omega, by omega, by omega, by omega, firstBad_fits _ _ _ hb, ?_⟩
      · have := List.find?_some hf
        simpa using this
      · unfold rightH
        rw [hf]
        simp only
        rw [if_neg hwr, if_neg hl, hb]
theorem fit_op {op : Int} {now : Bool} {flags : Int} {vs : List Nat} {r : HR} (h : FitH op now flags vs r) : 0 ≤ op ∧ op < 64 := by
  have := (head_fine r (findH_mem h.find)).2.2.2.2.1
  have := h.is
  omega
theorem or64 (op : Int) (h0 : 0 ≤ op) (h1 : op < 32) : bits .or .u8 op 64 = op + 64 := by
  obtain ⟨k, rfl⟩ := Int.eq_ofNat_of_zero_le h0
  have : ∀ k : Fin 32, bits .or .u8 ((k.val : Nat) : Int) 64 = ((k.val : Nat) : Int) + 64 := by decide
  exact this ⟨k, by omega⟩
theorem u8_nat (x : Int) (h0 : 0 ≤ x) (h1 : x ≤ 255) : ((UInt8.ofNat x.toNat).toNat : Int) = x := by
  simp; omega
end Go.Proofs.YtbimlijhgeajjaaGreatDoor

namespace Go.Proofs.YtbimlijhgeajjaaGreatDoor
open Go Go.RowKit
set_option linter.unusedVariables false
theorem num_from (l : List UInt8) (n : Nat) : l.foldl (fun n c => n * 256 + c.toNat) n = n * 256 ^ l.length + num l := by
  induction l generalizing n with
  | nil => simp [num]
  | cons c l ih =>
    have h2 : num (c :: l) = l.foldl (fun n c => n * 256 + c.toNat) (0 * 256 + c.toNat) := rfl
    rw [List.foldl_cons, ih, h2, ih, List.length_cons, Nat.pow_succ, Nat.add_mul, Nat.zero_mul, Nat.zero_add, Nat.mul_assoc, Nat.mul_comm 256]
    omega
theorem num_cons (c : UInt8) (l : List UInt8) : num (c :: l) = c.toNat * 256 ^ l.length + num l := by
  have := num_from l c.toNat
  have h2 : num (c :: l) = l.foldl (fun n c => n * 256 + c.toNat) (0 * 256 + c.toNat) := rfl
  rw [h2, Nat.zero_mul, Nat.zero_add, this]
theorem be_add (a b k : Nat) : be (a * 256 ^ k + b) k = be b k := by
  induction k generalizing a with
  | zero => rfl
  | succ k ih =>
    have hp : 0 < 256 ^ k := Nat.pow_pos (by omega)
    have e : a * 256 ^ (k + 1) + b = (a * 256) * 256 ^ k + b := by rw [Nat.pow_succ, Nat.mul_assoc, Nat.mul_comm 256]
    rw [be, be, e, ih]
    have : ((a * 256) * 256 ^ k + b) / 256 ^ k = a * 256 + b / 256 ^ k := by
      rw [Nat.add_comm, Nat.add_mul_div_right _ _ hp, Nat.add_comm]
    rw [this, Nat.add_comm, Nat.add_mul_mod_self_right]
theorem be_num (l : List UInt8) : be (num l) l.length = l := by
  induction l with
  | nil => rfl
  | cons c l ih =>
    have hp : 0 < 256 ^ l.length := Nat.pow_pos (by omega)
    have h1 := num_lt l
    rw [List.length_cons, be, num_cons, be_add, ih]
    rw [Nat.add_comm, Nat.add_mul_div_right _ _ hp, Nat.div_eq_of_lt h1, Nat.zero_add, Nat.mod_eq_of_lt c.toNat_lt]
    simp
/-- a field's value in 48 bytes -/
def valOf (s : List UInt8) (f : FR) : Nat := num ((s.drop f.at_).take f.size)
def valsOf (r : HR) (s : List UInt8) : List Nat := r.fields.map (valOf s)
def covers (fs : List FR) (i : Nat) : Bool := fs.any fun f => decide (f.at_ ≤ i) && decide (i < f.at_ + f.size)
theorem putAt_get (l : List UInt8) (k : Nat) (v : List UInt8) (i : Nat) (h : k + v.length ≤ l.length) : (putAt l k v)[i]? = if k ≤ i ∧ i < k + v.length then v[i - k]? else l[i]? := by
  unfold putAt
  have hk : (l.take k).length = k := by simp; omega
  by_cases h1 : i < k
  · rw [if_neg (by omega), List.append_assoc, List.getElem?_append_left (by omega), List.getElem?_take, if_pos h1]
  · rw [List.append_assoc, List.getElem?_append_right (by omega), hk]
    by_cases h2 : i < k + v.length
    · rw [if_pos (by omega), List.getElem?_append_left (by omega)]
    · rw [if_neg (by omega), List.getElem?_append_right (by omega), List.getElem?_drop]
      congr 1; omega
theorem slice_len (s : List UInt8) (f : FR) (h : f.at_ + f.size ≤ s.length) : ((s.drop f.at_).take f.size).length = f.size := by simp; omega
theorem be_val (s : List UInt8) (f : FR) (h : f.at_ + f.size ≤ s.length) : be (valOf s f) f.size = (s.drop f.at_).take f.size := by
  have := be_num ((s.drop f.at_).take f.size)
  rwa [slice_len s f h] at this
theorem writeF_get (s : List UInt8) (hs : s.length = 48) (i : Nat) (fs : List FR) (hf : ∀ f ∈ fs, f.at_ + f.size ≤ 48) (L : List UInt8) (hL : L.length = 48) :
    (writeF fs (fs.map (valOf s)) L)[i]? = (if covers fs i then s[i]? else L[i]?) ∧ (writeF fs (fs.map (valOf s)) L).length = 48 := by
  induction fs generalizing L with
  | nil => exact ⟨rfl, hL⟩
  | cons f fs ih =>
    have h0 := hf f (by simp)
    have hbl := be_length (valOf s f) f.size
    have hl : (putAt L f.at_ (be (valOf s f) f.size)).length = 48 := by rw [putAt_length _ _ _ (by omega), hL]
    rw [List.map_cons, writeF]
    obtain ⟨h1, h2⟩ := ih (fun g hg => hf g (by simp [hg])) _ hl
    refine ⟨?_, h2⟩
    rw [h1]
    have hc : covers (f :: fs) i = ((decide (f.at_ ≤ i) && decide (i < f.at_ + f.size)) || covers fs i) := rfl
    rw [hc]
    by_cases hcf : covers fs i = true
    · rw [if_pos hcf, if_pos (by simp [hcf])]
    · rw [if_neg hcf, putAt_get _ _ _ _ (by omega), hbl]
      by_cases hi : f.at_ ≤ i ∧ i < f.at_ + f.size
      · rw [if_pos hi, if_pos (by simp [hi]), be_val s f (by omega), List.getElem?_take, if_pos (by omega), List.getElem?_drop]
        congr 1; omega
      · rw [if_neg hi, if_neg]
        simp only [Bool.or_eq_true, Bool.and_eq_true, decide_eq_true_eq, not_or]
        exact ⟨hi, hcf⟩
def freeAt (r : HR) (i : Nat) : Bool := decide (i < 2) || (decide (4 ≤ i) && decide (i < 8)) || covers r.fields i
/-- a byte that is no field isn't 0 -/
def spoilt (r : HR) (s : List UInt8) : Bool := (List.range 48).any fun i => !freeAt r i && (s.getD i 0 != 0)
def hOp (s : List UInt8) : Int := ((s.getD 0 0).toNat % 64 : Nat)
def hNow (s : List UInt8) : Bool := decide (64 ≤ (s.getD 0 0).toNat)
def hFl (s : List UInt8) : Int := ((s.getD 1 0).toNat : Nat)
def hWords (s : List UInt8) : Int := ((s.getD 4 0).toNat : Nat)
def hData (s : List UInt8) : Int := (num ((s.drop 5).take 3) : Nat)
theorem list48 (s : List UInt8) (h : s.length = 48) : ∃ a b c d e f g i t, s = a :: b :: c :: d :: e :: f :: g :: i :: t ∧ t.length = 40 := by
  match s, h with
  | a :: b :: c :: d :: e :: f :: g :: i :: t, h => exact ⟨a, b, c, d, e, f, g, i, t, rfl, by simpa using h⟩
theorem head_back (s : List UInt8) (hs : s.length = 48) (h0 : (s.getD 0 0).toNat < 128) (i : Nat) (hi : i < 48) :
    (head48 (hOp s) (hNow s) (hFl s) (hWords s) (hData s))[i]? = some (if i < 2 ∨ (4 ≤ i ∧ i < 8) then s.getD i 0 else 0) := by
  obtain ⟨a, b, c, d, e, f, g, j, t, rfl, ht⟩ := list48 s hs
  have hd : be (hData (a :: b :: c :: d :: e :: f :: g :: j :: t)).toNat 3 = [f, g, j] := be_num [f, g, j]
  have ha : UInt8.ofNat ((hOp (a :: b :: c :: d :: e :: f :: g :: j :: t)).toNat + if hNow (a :: b :: c :: d :: e :: f :: g :: j :: t) = true then 64 else 0) = a := by
    have h0 : a.toNat < 128 := h0
    apply UInt8.toNat_inj.1
    simp only [hOp, hNow, List.getD_cons_zero, Int.toNat_natCast, decide_eq_true_eq, UInt8.toNat_ofNat']
    split <;> omega
  have hb : UInt8.ofNat (hFl (a :: b :: c :: d :: e :: f :: g :: j :: t)).toNat = b := by simp [hFl]
  have he : UInt8.ofNat (hWords (a :: b :: c :: d :: e :: f :: g :: j :: t)).toNat = e := by simp [hWords]
  unfold head48 head8
  rw [ha, hb, he, hd]
  rcases i with _ | _ | _ | _ | _ | _ | _ | _ | i
  all_goals try rfl
  rw [if_neg (by omega)]
  simp only [List.cons_append, List.nil_append, List.getElem?_cons_succ, List.getElem?_replicate]
  rw [if_pos (by omega)]
theorem write_back (r : HR) (hr : r ∈ headRows) (s : List UInt8) (hs : s.length = 48) (h0 : (s.getD 0 0).toNat < 128) :
    writeF r.fields (valsOf r s) (head48 (hOp s) (hNow s) (hFl s) (hWords s) (hData s)) = s ↔ spoilt r s = false := by
  have hf : ∀ f ∈ r.fields, f.at_ + f.size ≤ 48 := fun f hf => ((head_fine r hr).2.2.2.2.2.2.2 f hf).2.2.2.2.1
  have hg := fun i => writeF_get s hs i r.fields hf _ (head48_length (hOp s) (hNow s) (hFl s) (hWords s) (hData s))
  have hsp : spoilt r s = false ↔ ∀ i, i < 48 → freeAt r i = true ∨ s.getD i 0 = 0 := by
    unfold spoilt
    rw [List.any_eq_false]
    constructor
    · intro h i hi
      have := h i (List.mem_range.2 hi)
      cases hfa : freeAt r i <;> simp [hfa] at this ⊢
      exact this
    · intro h i hi
      rcases h i (List.mem_range.1 hi) with h | h
      · simp [h]
      · rw [h]; simp
  rw [hsp]
  constructor
  · intro h i hi
    have h1 := (hg i).1
    unfold valsOf at h
    rw [h] at h1
    by_cases hfa : freeAt r i = true
    · exact .inl hfa
    · right
      have hfa : freeAt r i = false := by simpa using hfa
      simp only [freeAt, Bool.or_eq_false_iff, Bool.and_eq_false_iff, decide_eq_false_iff_not] at hfa
      obtain ⟨⟨f1, f2⟩, f3⟩ := hfa
      rw [f3, if_neg (by simp), head_back s hs h0 i hi, if_neg (by omega)] at h1
      rw [List.getD, h1]; rfl
  · intro h
    refine List.ext_getElem? fun i => ?_
    have h1 := (hg i).1
    unfold valsOf
    rw [h1]
    by_cases hi : i < 48
    · by_cases hc : covers r.fields i = true
      · rw [if_pos hc]
      · rw [if_neg hc, head_back s hs h0 i hi]
        have e : s[i]? = some (s.getD i 0) := by rw [List.getD, List.getElem?_eq_getElem (by omega)]; rfl
        rw [e]
        split
        · rfl
        · rename_i hn
          rcases h i hi with hfa | h0
          · have hc : covers r.fields i = false := by simpa using hc
            simp only [freeAt, hc, Bool.or_false, Bool.or_eq_true, Bool.and_eq_true, decide_eq_true_eq] at hfa
            exact absurd hfa (by omega)
          · rw [h0]
    · rw [List.getElem?_eq_none (by omega)]
      split
      · rfl
      · rw [List.getElem?_eq_none (by rw [head48_length]; omega)]
theorem firstBad_vals (s : List UInt8) (hs : s.length = 48) (fs : List FR) (hf : ∀ f ∈ fs, f.at_ + f.size ≤ 48) (i : Nat) : firstBad fs (fs.map (valOf s)) i = none := by
  induction fs generalizing i with
  | nil => rfl
  | cons f fs ih =>
    rw [List.map_cons, firstBad, if_neg, ih (fun g hg => hf g (by simp [hg]))]
    have h := num_lt ((s.drop f.at_).take f.size)
    rw [slice_len s f (by have := hf f (by simp); omega)] at h
    unfold valOf
    omega
theorem right_read (r : HR) (s : List UInt8) (hs : s.length = 48) (hf : findH (hOp s) = some r) :
    rightH (hOp s) (hNow s) (hFl s) (valsOf r s) = if wrongH (hOp s) (hNow s) (hFl s) r.flags then (3, -1) else (0, -1) := by
  unfold rightH
  rw [hf]
  simp only
  split
  · rfl
  · rw [if_neg (by simp [valsOf])]
    unfold valsOf
    rw [firstBad_vals s hs r.fields (fun f hf' => ((head_fine r (findH_mem hf)).2.2.2.2.2.2.2 f hf').2.2.2.2.1)]
/-- what reading a head tells -/
structure RdH where
  e : Nat
  op : Int
  now : Bool
  flags : Int
  vals : List Nat
  words : Int
  data : Int
def readNo (e : Nat) : RdH := ⟨e, 0, false, 0, [], 0, 0⟩
def readO (s : List UInt8) : Option HR → RdH
  | none => readNo 1
  | some r => if wrongH (hOp s) (hNow s) (hFl s) r.flags then readNo 3 else if spoilt r s then readNo 3 else ⟨0, hOp s, hNow s, hFl s, valsOf r s, hWords s, hData s⟩
def readH (s : List UInt8) : RdH :=
  if s.length ≠ 48 then readNo 7 else if 128 ≤ (s.getD 0 0).toNat then readNo 3 else readO s (findH (hOp s))
end Go.Proofs.YtbimlijhgeajjaaGreatDoor
