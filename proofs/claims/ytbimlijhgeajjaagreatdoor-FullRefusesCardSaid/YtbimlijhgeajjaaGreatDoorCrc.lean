/- Additional headers as bytes, by the program. -/
import Derived.Test.YtbimlijhgeajjaaGreatDoorAhsW
import Derived.Test.YtbimlijhgeajjaaGreatDoorProg
import Derived.Test.YtbimlijhgeajjaaGreatDoorBase
set_option linter.unusedSectionVars false
set_option linter.unusedSimpArgs false
set_option linter.unusedVariables false
namespace Go.Proofs.YtbimlijhgeajjaaGreatDoor
open Go.RowKit
set_option linter.unusedVariables false
set_option maxRecDepth 100000
def RAhsWr (I : Nat → Int × List UInt8) (n : Nat) (w : World) (out i : Value) (wr : World) : Prop :=
  ∃ (k : Nat) (o : List UInt8), k ≤ n ∧ o.length ≤ 1020 ∧ i = .int .i64 (k : Nat) ∧ out = .string (bs o) ∧ ahsW I (n - k) k o.length = (0, -1) ∧ ahsB I n 0 [] = ahsB I (n - k) k o ∧ Below w.heap.size w wr
theorem ahsW_zero (I : Nat → Int × List UInt8) (r i m : Nat) (h : (ahsW I r i m).1 = 0) : ahsW I r i m = (0, -1) := by
  induction r generalizing i m with
  | zero => rfl
  | succ r ih =>
    rw [ahsW] at h ⊢
    split at h
    · simp at h
    · split at h
      · simp at h
      · rw [if_neg (by assumption), if_neg (by assumption)]; exact ih _ _ h
theorem errIs_zero {w : World} {v : Value} {pl : Int} (h : ErrIs w v 0 pl) : v = .nilIface := by
  generalize hk : 0 = k at h
  cases h <;> first | rfl | omega
theorem byte_wrap (kd : Int) (h0 : 0 ≤ kd) (h1 : kd ≤ 255) : IntKind.u8.wrap kd = ((UInt8.ofNat kd.toNat).toNat : Nat) := by
  rw [IntKind.wrap_u8]; simp; omega
def AhsWrPost (I : Nat → Int × List UInt8) (n : Nat) (w : World) (e : Ending) (w' : World) : Prop :=
  (∃ er, e = .returned (.tuple #[.string (bs (if (ahsW I n 0 0).1 = 0 then ahsB I n 0 [] else [])), er]) ∧ ErrIs w' er (ahsW I n 0 0).1 (ahsW I n 0 0).2) ∧ Below w.heap.size w w'
end Go.Proofs.YtbimlijhgeajjaaGreatDoor

namespace Go.Proofs.YtbimlijhgeajjaaGreatDoor.QCrc
def P : Nat := 2197175160
def step (n : Nat) : Nat := (n / 2) ^^^ (if n % 2 = 1 then P else 0)
def iter : Nat → Nat → Nat
  | 0, n => n
  | k + 1, n => step (iter k n)
theorem iter_succ' (k n : Nat) : iter (k + 1) n = iter k (step n) := by
  induction k with
  | zero => rfl
  | succ k ih => show step (iter (k+1) n) = step (iter k (step n)); rw [ih]
def crc (l : List UInt8) (n : Nat) : Nat := l.foldl (fun n c => iter 8 (n ^^^ c.toNat)) n
theorem step_lt (n : Nat) (h : n < 4294967296) : step n < 4294967296 := by
  unfold step
  have h1 : n / 2 < 2 ^ 32 := by omega
  have h2 : (if n % 2 = 1 then P else 0) < 2 ^ 32 := by unfold P; split <;> omega
  exact Nat.xor_lt_two_pow h1 h2
theorem iter_lt (k n : Nat) (h : n < 4294967296) : iter k n < 4294967296 := by
  induction k with
  | zero => exact h
  | succ k ih => exact step_lt _ ih
theorem xor_div2 (a b : Nat) : (a ^^^ b) / 2 = (a / 2) ^^^ (b / 2) := by
  have := Nat.shiftRight_xor_distrib (a := a) (b := b) (i := 1)
  simpa [Nat.shiftRight_eq_div_pow] using this
theorem xor_mod2 (a b : Nat) : (a ^^^ b) % 2 = (a % 2 + b % 2) % 2 := by
  have h : (a ^^^ b).testBit 0 = (a.testBit 0 ^^ b.testBit 0) := Nat.testBit_xor ..
  simp only [Nat.testBit_zero] at h
  rcases Nat.mod_two_eq_zero_or_one a with h1 | h1 <;> rcases Nat.mod_two_eq_zero_or_one b with h2 | h2 <;> rcases Nat.mod_two_eq_zero_or_one (a ^^^ b) with h3 | h3 <;> rw [h1, h2, h3] at h <;> rw [h1, h2, h3] <;> simp at h <;> rfl
theorem step_even (a b : Nat) (hb : b % 2 = 0) : step (a ^^^ b) = step a ^^^ (b / 2) := by
  unfold step
  rw [xor_div2]
  have : (a ^^^ b) % 2 = a % 2 := by rw [xor_mod2]; omega
  rw [this, Nat.xor_assoc, Nat.xor_assoc, Nat.xor_comm (b / 2)]
theorem iter_shift (j a b : Nat) : iter j (a ^^^ (b * 2 ^ j)) = iter j a ^^^ b := by
  induction j generalizing a with
  | zero => simp [iter]
  | succ j ih =>
    rw [iter_succ', iter_succ', Nat.pow_succ, ← Nat.mul_assoc, step_even _ _ (by omega), Nat.mul_div_cancel _ (by omega), ih]
theorem byte_table (n c : Nat) (hc : c < 256) : iter 8 (n ^^^ c) = iter 8 ((n % 256) ^^^ c) ^^^ (n / 256) := by
  have h : n = (n % 256) ^^^ (n / 256 * 2 ^ 8) := by
    have h1 := Nat.two_pow_add_eq_or_of_lt (i := 8) (b := n % 256) (by omega) (n / 256)
    apply Nat.eq_of_testBit_eq
    intro i
    rw [Nat.testBit_xor, Nat.testBit_mul_two_pow]
    rw [show (256 : Nat) = 2 ^ 8 from rfl, Nat.testBit_mod_two_pow, Nat.testBit_div_two_pow]
    by_cases hi : i < 8
    · simp [hi, show ¬ 8 ≤ i by omega]
    · simp [hi, show 8 ≤ i by omega]
  conv => lhs; rw [h]
  rw [Nat.xor_assoc, Nat.xor_comm (n / 256 * 2 ^ 8), ← Nat.xor_assoc, iter_shift]
/-- the reference's step, bit by bit -/
def rstep (n b : Nat) : Nat := (n / 2) ^^^ (if (n % 2) ^^^ b = 1 then P else 0)
def riter : Nat → Nat → Nat → Nat
  | 0, n, _ => n
  | k + 1, n, c => rstep (riter k n c) (c / 2 ^ k % 2)
theorem iter_riter (k n c : Nat) : iter k (n ^^^ c) = riter k n c ^^^ (c / 2 ^ k) := by
  induction k with
  | zero => simp [iter, riter]
  | succ k ih =>
    show step (iter k (n ^^^ c)) = rstep (riter k n c) (c / 2 ^ k % 2) ^^^ _
    rw [ih]
    generalize riter k n c = r
    rw [Nat.pow_succ, ← Nat.div_div_eq_div_mul]
    generalize c / 2 ^ k = d
    unfold step rstep
    rw [xor_div2, xor_mod2]
    have e : ((r % 2) ^^^ (d % 2) = 1) ↔ (r % 2 + d % 2) % 2 = 1 := by
      rcases Nat.mod_two_eq_zero_or_one r with h1 | h1 <;> rcases Nat.mod_two_eq_zero_or_one d with h2 | h2 <;> simp [h1, h2]
    by_cases h : (r % 2 + d % 2) % 2 = 1
    · rw [if_pos h, if_pos (e.2 h), Nat.xor_assoc, Nat.xor_assoc, Nat.xor_comm (d / 2)]
    · rw [if_neg h, if_neg (fun x => h (e.1 x)), Nat.xor_assoc, Nat.xor_assoc, Nat.xor_comm (d / 2)]
theorem riter8 (n c : Nat) (hc : c < 256) : riter 8 n c = iter 8 (n ^^^ c) := by
  have := iter_riter 8 n c
  rw [show c / 2 ^ 8 = 0 by omega] at this
  simpa using this.symm
theorem crc_lt (l : List UInt8) (n : Nat) (h : n < 4294967296) : crc l n < 4294967296 := by
  induction l generalizing n with
  | nil => exact h
  | cons c l ih =>
    refine ih _ (iter_lt _ _ (Nat.xor_lt_two_pow (n := 32) h ?_))
    have := c.toNat_lt; omega
theorem riter_lt (k n c : Nat) (h : n < 4294967296) : riter k n c < 4294967296 := by
  induction k with
  | zero => exact h
  | succ k ih =>
    have h1 : riter k n c / 2 < 2 ^ 32 := by omega
    have h2 : (if (riter k n c % 2) ^^^ (c / 2 ^ k % 2) = 1 then P else 0) < 2 ^ 32 := by unfold P; split <;> omega
    exact Nat.xor_lt_two_pow h1 h2
theorem crc_snoc (l : List UInt8) (c : UInt8) (n : Nat) : crc (l ++ [c]) n = iter 8 (crc l n ^^^ c.toNat) := by
  simp [crc]
theorem compl (n : Nat) (h : n < 4294967296) : 4294967295 ^^^ n = 4294967295 - n := by
  apply Nat.eq_of_testBit_eq
  intro i
  have e1 : (4294967295 : Nat) = 2 ^ 32 - 1 := rfl
  rw [Nat.testBit_xor, show 4294967295 - n = 2 ^ 32 - (n + 1) by omega, Nat.testBit_two_pow_sub_succ (by omega), e1, Nat.testBit_two_pow_sub_one]
  by_cases hi : i < 32
  · simp [hi]
  · have : n.testBit i = false := Nat.testBit_lt_two_pow (Nat.lt_of_lt_of_le (by omega) (Nat.pow_le_pow_right (n := 2) (by omega) (show 32 ≤ i by omega)))
    simp [hi, this]
def bit (l : List UInt8) (i : Nat) : Nat := (l.getD (i / 8) 0).toNat / 2 ^ (i % 8) % 2
def rst (l : List UInt8) : Nat → Nat
  | 0 => 4294967295
  | i + 1 => rstep (rst l i) (bit l i)
theorem rst_lt (l : List UInt8) (i : Nat) : rst l i < 4294967296 := by
  induction i with
  | zero => show (4294967295 : Nat) < 4294967296; omega
  | succ i ih =>
    have h1 : rst l i / 2 < 2 ^ 32 := by omega
    have h2 : (if (rst l i % 2) ^^^ bit l i = 1 then P else 0) < 2 ^ 32 := by unfold P; split <;> omega
    exact Nat.xor_lt_two_pow h1 h2
theorem rst_at (l : List UInt8) (k j : Nat) (hk : k < l.length) (hj : j ≤ 8) (h : rst l (8 * k) = crc (l.take k) 4294967295) :
    rst l (8 * k + j) = riter j (crc (l.take k) 4294967295) (l.getD k 0).toNat := by
  induction j with
  | zero => exact h
  | succ j ih =>
    show rstep (rst l (8 * k + j)) (bit l (8 * k + j)) = rstep _ _
    rw [ih (by omega)]
    unfold bit
    rw [show (8 * k + j) / 8 = k by omega, show (8 * k + j) % 8 = j by omega]
theorem rst_bytes (l : List UInt8) (k : Nat) (hk : k ≤ l.length) : rst l (8 * k) = crc (l.take k) 4294967295 := by
  induction k with
  | zero => rfl
  | succ k ih =>
    rw [show 8 * (k + 1) = 8 * k + 8 by omega, rst_at l k 8 (by omega) (by omega) (ih (by omega)), riter8 _ _ (by have := (l.getD k 0).toNat_lt; omega)]
    rw [List.take_succ_eq_append_getElem (by omega), crc_snoc]
    congr 2
    simp [List.getD, show k < l.length by omega]
theorem rst_full (l : List UInt8) : rst l (8 * l.length) = crc l 4294967295 := by
  rw [rst_bytes l _ (Nat.le_refl _), List.take_length]
end Go.Proofs.YtbimlijhgeajjaaGreatDoor.QCrc

namespace Go.Proofs.YtbimlijhgeajjaaGreatDoor
open Go.RowKit
set_option linter.unusedVariables false
def tabA (i : Nat) : Array Value := (((List.range i).map fun (k : Nat) => Value.int .u32 (QCrc.iter 8 k)) ++ List.replicate (256 - i) (Value.int .u32 0)).toArray
theorem wp_world {P : Program} {c : Code} {Q : Exit → Act → World → Prop} {a : Act} {w w' : World} (h : w = w') (k : Code.wp P c Q a w') : Code.wp P c Q a w := by rw [h]; exact k
theorem tabsize (i : Nat) (h : i ≤ 256) : (tabA i).size = 256 := by simp [tabA]; omega
theorem tabget (i : Nat) (h : i < 256) : (tabA i)[i]? = some (Value.int .u32 0) := by
  simp [tabA, List.getElem?_append, List.getElem?_replicate]; omega
theorem tabset (i : Nat) (h : i < 256) : (tabA i).setIfInBounds i (Value.int .u32 (QCrc.iter 8 i)) = tabA (i + 1) := by
  apply Array.ext
  · simp [tabA]; omega
  · intro k h1 h2
    simp [tabA] at h1 h2
    have h3 : k < (tabA i).size := by simp [tabA]; omega
    rw [Array.getElem_setIfInBounds h3]
    simp only [tabA, List.getElem_toArray]
    by_cases hk : i = k
    · subst hk; simp
    · rw [if_neg hk]
      by_cases hlt : k < i
      · simp [hlt, show k < i + 1 by omega]
      · simp [List.getElem_append, hlt, show ¬ k < i + 1 by omega]
theorem tabfull (k : Nat) (h : k < 256) : (tabA 256)[k]? = some (Value.int .u32 (QCrc.iter 8 k)) := by
  simp [tabA, h]
theorem taball : (tabA 256).all (·.oneCell') = true := by
  simp [tabA, Value.oneCell']
theorem step_walk (x : Nat) (h : x < 4294967296) : bits .xor .u32 ((x : Int) / 2) (bits .and .u32 ((-(bits .and .u32 (x : Int) 1)) % 4294967296) 2197175160) = (QCrc.step x : Nat) := by
  have e1 : bits .and .u32 (x : Int) 1 = ((x % 2 : Nat) : Int) := by
    have := u32_and_nat x 1 h (by omega); rw [nat_mask1] at this; exact this
  rw [e1]
  have e3 : ((x : Int) / 2) = ((x / 2 : Nat) : Int) := by omega
  unfold QCrc.step
  rcases Nat.mod_two_eq_zero_or_one x with h0 | h1
  · rw [h0, e3]
    have e2 : bits .and .u32 ((-((0 : Nat) : Int)) % 4294967296) 2197175160 = ((0 : Nat) : Int) := u32_and_nat 0 2197175160 (by omega) (by omega)
    rw [e2, u32_xor_nat _ _ (by omega) (by omega)]; simp
  · rw [h1, e3]
    have e2 : bits .and .u32 ((-((1 : Nat) : Int)) % 4294967296) 2197175160 = ((2197175160 : Nat) : Int) := u32_and_nat 4294967295 2197175160 (by omega) (by omega)
    rw [e2, u32_xor_nat _ _ (by omega) (by omega)]; simp [QCrc.P]
set_option maxRecDepth 100000 in
theorem compl_crc (n : Nat) (h : n < 4294967296) : bits BinOp.xor IntKind.u32 IntKind.u32.max (n : Int) = ((4294967295 - n : Nat) : Int) := by
  have := u32_xor_nat 4294967295 n (by omega) h
  rw [show IntKind.u32.max = ((4294967295 : Nat) : Int) from rfl, this]
  rw [QCrc.compl n h]
theorem xorP (r : Nat) (h : r < 4294967296) : Value.int .u32 (bits BinOp.xor IntKind.u32 ((r : Int) / 2) 2197175160) = Value.int .u32 ((r / 2 ^^^ QCrc.P : Nat) : Int) := by
  have e : ((r : Int) / 2) = ((r / 2 : Nat) : Int) := by omega
  have := u32_xor_nat (r / 2) 2197175160 (by omega) (by omega)
  rw [e]; rw [show (2197175160 : Int) = ((2197175160 : Nat) : Int) from rfl, this]; rfl
theorem rcond (r c j : Nat) (hr : r < 4294967296) (hc : c < 2 ^ 8) : 
   ((r % 2) ^^^ (c / 2 ^ j % 2) = 1 → (bits BinOp.xor IntKind.u32 (bits BinOp.and IntKind.u32 (r : Int) 1) (bits BinOp.and IntKind.u32 ((c : Int) / 2 ^ j % 4294967296) 1) == 1) = true) ∧
   (¬ (r % 2) ^^^ (c / 2 ^ j % 2) = 1 → (bits BinOp.xor IntKind.u32 (bits BinOp.and IntKind.u32 (r : Int) 1) (bits BinOp.and IntKind.u32 ((c : Int) / 2 ^ j % 4294967296) 1) == 1) = false) := by
  have h0 : c / 2 ^ j ≤ c := Nat.div_le_self _ _
  have e1 : bits .and .u32 (r : Int) 1 = ((r % 2 : Nat) : Int) := by
    have := u32_and_nat r 1 hr (by omega); rw [nat_mask1] at this; exact this
  have e2 : ((c : Int) / 2 ^ j % 4294967296) = ((c / 2 ^ j : Nat) : Int) := by
    have : (c : Int) / 2 ^ j = ((c / 2 ^ j : Nat) : Int) := by simp
    have h9 : c / 2 ^ j < 256 := by omega
    rw [this]; generalize c / 2 ^ j = q at *; omega
  have e3 : bits .and .u32 ((c / 2 ^ j : Nat) : Int) 1 = ((c / 2 ^ j % 2 : Nat) : Int) := by
    have := u32_and_nat (c / 2 ^ j) 1 (by omega) (by omega); rw [nat_mask1] at this; exact this
  rw [e1, e2, e3, u32_xor_nat _ _ (by omega) (by omega)]
  constructor
  · intro h; rw [h]; rfl
  · intro h; simp; omega
def dig (n : Nat) : List UInt8 := [UInt8.ofNat (n % 256), UInt8.ofNat (n / 256 % 256), UInt8.ofNat (n / 65536 % 256), UInt8.ofNat (n / 16777216 % 256)]
def crcS (s : ByteArray) : Nat := 4294967295 - QCrc.crc s.data.toList 4294967295
theorem digB (n : Nat) (h : n < 4294967296) : bs [byteOf ((n : Int) % 256), byteOf ((n : Int) / 256 % 256), byteOf ((n : Int) / 65536 % 256), byteOf ((n : Int) / 16777216)] = bs (dig n) := by
  have e1 : ((n : Int) % 256) = ((n % 256 : Nat) : Int) := by omega
  have e2 : ((n : Int) / 256 % 256) = ((n / 256 % 256 : Nat) : Int) := by omega
  have e3 : ((n : Int) / 65536 % 256) = ((n / 65536 % 256 : Nat) : Int) := by omega
  have e4 : ((n : Int) / 16777216) = ((n / 16777216 % 256 : Nat) : Int) := by omega
  rw [e1, e2, e3, e4]; rfl
theorem dig_take (n k : Nat) (h : k < 4) : (dig n).take (k + 1) = (dig n).take k ++ [UInt8.ofNat (n / 256 ^ k % 256)] := by
  match k, h with
  | 0, _ => simp [dig]
  | 1, _ => simp [dig]
  | 2, _ => simp [dig]
  | 3, _ => simp [dig]
end Go.Proofs.YtbimlijhgeajjaaGreatDoor
