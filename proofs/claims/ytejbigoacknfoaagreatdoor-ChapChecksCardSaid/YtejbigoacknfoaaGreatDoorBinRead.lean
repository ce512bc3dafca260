/- The bytes that a binary value is, in plain Lean. -/
import Derived.Test.YtejbigoacknfoaaGreatDoorBinPure
import Derived.Test.YtejbigoacknfoaaGreatDoorNumPure
import Derived.Lib.Bytealg
set_option linter.unusedSectionVars false
set_option linter.unusedSimpArgs false
set_option linter.unusedVariables false
namespace Go.Proofs.YtejbigoacknfoaaGreatDoor
open Go Go.RowKit
set_option linter.unusedVariables false
set_option linter.unusedSectionVars false
set_option linter.unusedSimpArgs false
set_option maxRecDepth 100000
namespace QBin
/-- the first that is not so -/
def badI (p : UInt8 → Bool) (l : List UInt8) : Nat := l.findIdx fun c => !p c
theorem badI_at (p : UInt8 → Bool) (l : List UInt8) (k : Nat) (c : UInt8) (h : l[k]? = some c) (hp : p c = false) (ha : (l.take k).all p = true) : badI p l = k := by
  obtain ⟨h1, h2⟩ := List.getElem?_eq_some_iff.1 h
  unfold badI
  rw [List.findIdx_eq h1]
  refine ⟨by rw [h2, hp]; rfl, fun j hj => ?_⟩
  have : l[j] ∈ l.take k := by
    rw [List.mem_take_iff_getElem]
    exact ⟨j, by omega, rfl⟩
  rw [List.all_eq_true.1 ha _ this]
  rfl
theorem badI_none (p : UInt8 → Bool) (l : List UInt8) (ha : l.all p = true) : badI p l = l.length := by
  unfold badI
  rw [List.findIdx_eq_length]
  intro x hx
  rw [List.all_eq_true.1 ha x hx]
  rfl
theorem all_step (p : UInt8 → Bool) (l : List UInt8) (k : Nat) (c : UInt8) (h : l[k]? = some c) (hp : p c = true) (ha : (l.take k).all p = true) : (l.take (k + 1)).all p = true := by
  obtain ⟨h1, h2⟩ := List.getElem?_eq_some_iff.1 h
  rw [List.take_succ_eq_append_getElem h1, h2, List.all_append, ha]
  simp [hp]
/-! hexadecimal -/
def isHex (c : UInt8) : Bool := decide (digV c < 16)
def hexB (a b : UInt8) : UInt8 := UInt8.ofNat (16 * digV a + digV b)
def accH : List UInt8 → List UInt8
  | [] => []
  | [a] => [UInt8.ofNat (16 * digV a)]
  | a :: b :: r => hexB a b :: accH r
theorem accH_append : ∀ (n : Nat) (l r : List UInt8), l.length = 2 * n → accH (l ++ r) = accH l ++ accH r := by
  intro n
  induction n with
  | zero =>
    intro l r h
    rw [List.length_eq_zero_iff.1 (by omega : l.length = 0)]
    rfl
  | succ n ih =>
    intro l r h
    match l, h with
    | a :: b :: l, h =>
      simp only [List.cons_append, accH]
      rw [ih l r (by simp at h; omega)]
theorem accH_len : ∀ (n : Nat) (l : List UInt8), l.length = 2 * n → (accH l).length = n := by
  intro n
  induction n with
  | zero =>
    intro l h
    rw [List.length_eq_zero_iff.1 (by omega : l.length = 0)]
    rfl
  | succ n ih =>
    intro l h
    match l, h with
    | a :: b :: l, h =>
      simp only [accH, List.length_cons]
      rw [ih l (by simp at h; omega)]
theorem accH_one (l : List UInt8) (n : Nat) (a : UInt8) (hn : 2 * n ≤ l.length) (ha : l[2 * n]? = some a) : accH (l.take (2 * n + 1)) = accH (l.take (2 * n)) ++ [UInt8.ofNat (16 * digV a)] := by
  obtain ⟨h1, h2⟩ := List.getElem?_eq_some_iff.1 ha
  rw [List.take_succ_eq_append_getElem h1, h2, accH_append n _ _ (by rw [List.length_take]; omega)]
  rfl
theorem accH_two (l : List UInt8) (n : Nat) (a b : UInt8) (ha : l[2 * n]? = some a) (hb : l[2 * n + 1]? = some b) : accH (l.take (2 * n + 2)) = accH (l.take (2 * n)) ++ [hexB a b] := by
  obtain ⟨h1, h2⟩ := List.getElem?_eq_some_iff.1 ha
  obtain ⟨h3, h4⟩ := List.getElem?_eq_some_iff.1 hb
  rw [List.take_succ_eq_append_getElem h3, h4, List.take_succ_eq_append_getElem h1, h2, List.append_assoc, accH_append n _ _ (by rw [List.length_take]; omega)]
  rfl
def unhexP (r : List UInt8) : List UInt8 × Nat × Int :=
  if r.length % 2 = 1 then ([], 7, -1) else if badI isHex r < r.length then ([], 3, ((badI isHex r + 2 : Nat) : Int)) else (accH r, 0, -1)
/-! Base64 -/
def sixV (c : UInt8) : Nat := (Lib.indexByte letters c).toNat
def isSix (c : UInt8) : Bool := decide (0 ≤ Lib.indexByte letters c)
theorem six_eq : isSix 61 = false := by decide +kernel
theorem six_lt (c : UInt8) : sixV c < 64 := u8_all (fun c => sixV c < 64) (by decide +kernel) c
theorem six_of (c : UInt8) : isSix c = true → Lib.indexByte letters c = (sixV c : Nat) := u8_all (fun c => isSix c = true → Lib.indexByte letters c = (sixV c : Nat)) (by decide +kernel) c
theorem six_not (c : UInt8) : isSix c = false → decide (Lib.indexByte letters c < 0) = true := u8_all (fun c => isSix c = false → decide (Lib.indexByte letters c < 0) = true) (by decide +kernel) c
def cutE (r : List UInt8) : List UInt8 := if r.getLast? = some 61 then r.dropLast else r
def body (r : List UInt8) : List UInt8 := cutE (cutE r)
def bits6F (l : List UInt8) : List UInt8 := l.flatMap fun c => bits6 (sixV c)
theorem bits6F_take (l : List UInt8) (k : Nat) (c : UInt8) (h : l[k]? = some c) : bits6F (l.take (k + 1)) = bits6F (l.take k) ++ bits6 (sixV c) := by
  obtain ⟨h1, h2⟩ := List.getElem?_eq_some_iff.1 h
  rw [List.take_succ_eq_append_getElem h1, h2]
  simp [bits6F]
theorem bits6F_len (l : List UInt8) : (bits6F l).length = 6 * l.length := by
  induction l with
  | nil => rfl
  | cons a l ih => simp [bits6F, bits6] at *; omega
theorem bits6F_lt (l : List UInt8) : ∀ c ∈ bits6F l, digV c < 2 := by
  intro c hc
  unfold bits6F at hc
  rw [List.mem_flatMap] at hc
  obtain ⟨x, _, hx⟩ := hc
  unfold bits6 at hx
  simp at hx
  rcases hx with rfl | rfl | rfl | rfl | rfl | rfl <;> exact bit_lt _ _
def chop8 : Nat → List UInt8 → List UInt8
  | 0, _ => []
  | k + 1, l => UInt8.ofNat (valD 2 (l.take 8)) :: chop8 k (l.drop 8)
theorem chop8_succ (k : Nat) (l : List UInt8) : chop8 (k + 1) l = chop8 k l ++ [UInt8.ofNat (valD 2 ((l.drop (8 * k)).take 8))] := by
  induction k generalizing l with
  | zero => simp [chop8]
  | succ k ih =>
    rw [chop8, ih, chop8, List.cons_append, List.drop_drop, show 8 + 8 * k = 8 * (k + 1) by omega]
theorem chop8_len (k : Nat) (l : List UInt8) : (chop8 k l).length = k := by
  induction k generalizing l with
  | zero => rfl
  | succ k ih => simp [chop8, ih]
/-- six bits a letter, eight a byte: bytes, and the bits that are left -/
def bitR (b : List UInt8) : List UInt8 × List UInt8 := (chop8 (6 * b.length / 8) (bits6F b), (bits6F b).drop (8 * (6 * b.length / 8)))
/-- four letters, three bytes: bytes, and the number of what is left -/
def outsP : List UInt8 → List UInt8 × Nat
  | a :: b :: c :: d :: r => (UInt8.ofNat (sixV a * 4 + sixV b / 16) :: UInt8.ofNat (sixV b % 16 * 16 + sixV c / 4) :: UInt8.ofNat (sixV c % 4 * 64 + sixV d) :: (outsP r).1, (outsP r).2)
  | [a, b, c] => ([UInt8.ofNat (sixV a * 4 + sixV b / 16), UInt8.ofNat (sixV b % 16 * 16 + sixV c / 4)], sixV c % 4)
  | [a, b] => ([UInt8.ofNat (sixV a * 4 + sixV b / 16)], sixV b % 16)
  | _ => ([], 0)
theorem val8 (a b c d e f g h : UInt8) : valD 2 [a, b, c, d, e, f, g, h] = ((((((digV a * 2 + digV b) * 2 + digV c) * 2 + digV d) * 2 + digV e) * 2 + digV f) * 2 + digV g) * 2 + digV h := by
  simp [valD]
theorem eight_cons (a b c d e f g h : UInt8) (r : List UInt8) (k : Nat) : chop8 (k + 1) (a :: b :: c :: d :: e :: f :: g :: h :: r) = UInt8.ofNat (((((((digV a * 2 + digV b) * 2 + digV c) * 2 + digV d) * 2 + digV e) * 2 + digV f) * 2 + digV g) * 2 + digV h) :: chop8 k r := by
  rw [chop8]
  simp only [List.take_succ_cons, List.take_zero, List.drop_succ_cons, List.drop_zero]
  rw [val8]
theorem y1_bits (x y : Nat) (h : x < 64) (h2 : y < 64) : ((((((x / 2 ^ 5 % 2 * 2 + x / 2 ^ 4 % 2) * 2 + x / 2 ^ 3 % 2) * 2 + x / 2 ^ 2 % 2) * 2 + x / 2 ^ 1 % 2) * 2 + x / 2 ^ 0 % 2) * 2 + y / 2 ^ 5 % 2) * 2 + y / 2 ^ 4 % 2 = x * 4 + y / 16 := by omega
theorem y2_bits (x y : Nat) (h : x < 64) (h2 : y < 64) : ((((((x / 2 ^ 3 % 2 * 2 + x / 2 ^ 2 % 2) * 2 + x / 2 ^ 1 % 2) * 2 + x / 2 ^ 0 % 2) * 2 + y / 2 ^ 5 % 2) * 2 + y / 2 ^ 4 % 2) * 2 + y / 2 ^ 3 % 2) * 2 + y / 2 ^ 2 % 2 = x % 16 * 16 + y / 4 := by omega
theorem y3_bits (x y : Nat) (h : x < 64) (h2 : y < 64) : ((((((x / 2 ^ 1 % 2 * 2 + x / 2 ^ 0 % 2) * 2 + y / 2 ^ 5 % 2) * 2 + y / 2 ^ 4 % 2) * 2 + y / 2 ^ 3 % 2) * 2 + y / 2 ^ 2 % 2) * 2 + y / 2 ^ 1 % 2) * 2 + y / 2 ^ 0 % 2 = x % 4 * 64 + y := by omega
theorem bit_49 (n i : Nat) : bit n i = 49 ↔ n / 2 ^ i % 2 = 1 := by
  unfold bit
  split <;> simp_all
theorem bitR_len (b : List UInt8) : (bitR b).2.length = 6 * b.length % 8 := by
  unfold bitR
  rw [List.length_drop, bits6F_len]; omega
theorem eq_bits : ∀ (n : Nat) (b : List UInt8), b.length ≤ n → b.length % 4 ≠ 1 → (bitR b).1 = (outsP b).1 ∧ (49 ∈ (bitR b).2 ↔ (outsP b).2 ≠ 0) := by
  intro n
  induction n with
  | zero =>
    intro b h _
    rw [List.length_eq_zero_iff.1 (by omega : b.length = 0)]
    exact ⟨rfl, by simp [bitR, outsP, bits6F]⟩
  | succ n ih =>
    intro b h h1
    match b, h, h1 with
    | [], _, _ => exact ⟨rfl, by simp [bitR, outsP, bits6F]⟩
    | [a], _, h1 => simp at h1
    | [a, b], _, _ =>
      have ha := six_lt a
      have hb := six_lt b
      have e : bits6F [a, b] = bits6 (sixV a) ++ bits6 (sixV b) := by simp [bits6F]
      unfold bitR
      rw [e, show 6 * [a, b].length / 8 = 0 + 1 by simp]
      simp only [bits6, List.cons_append, List.nil_append]
      rw [eight_cons]
      simp only [outsP, chop8, bit_dig]
      refine ⟨by rw [y1_bits _ _ ha hb], ?_⟩
      simp only [Nat.zero_add, Nat.mul_one, List.drop_succ_cons, List.drop_zero, List.mem_cons, List.not_mem_nil, or_false]
      rw [eq_comm, bit_49, eq_comm (a := (49 : UInt8)), bit_49, eq_comm (a := (49 : UInt8)), bit_49, eq_comm (a := (49 : UInt8)), bit_49]
      omega
    | [a, b, c], _, _ =>
      have ha := six_lt a
      have hb := six_lt b
      have hc := six_lt c
      have e : bits6F [a, b, c] = bits6 (sixV a) ++ (bits6 (sixV b) ++ bits6 (sixV c)) := by simp [bits6F]
      unfold bitR
      rw [e, show 6 * [a, b, c].length / 8 = 0 + 1 + 1 by simp]
      simp only [bits6, List.cons_append, List.nil_append]
      rw [eight_cons, eight_cons]
      simp only [outsP, chop8, bit_dig]
      refine ⟨by rw [y1_bits _ _ ha hb, y2_bits _ _ hb hc], ?_⟩
      simp only [Nat.zero_add, Nat.mul_one, show 8 * (1 + 1) = 16 from rfl, List.drop_succ_cons, List.drop_zero, List.mem_cons, List.not_mem_nil, or_false]
      rw [eq_comm, bit_49, eq_comm (a := (49 : UInt8)), bit_49]
      omega
    | a :: b :: c :: d :: r, h, h1 =>
      have ha := six_lt a
      have hb := six_lt b
      have hc := six_lt c
      have hd := six_lt d
      obtain ⟨i1, i2⟩ := ih r (by simp at h; omega) (by simp at h1; omega)
      have e : bits6F (a :: b :: c :: d :: r) = bits6 (sixV a) ++ (bits6 (sixV b) ++ (bits6 (sixV c) ++ (bits6 (sixV d) ++ bits6F r))) := by simp [bits6F]
      have ek : 6 * (a :: b :: c :: d :: r).length / 8 = 6 * r.length / 8 + 1 + 1 + 1 := by simp; omega
      unfold bitR at i1 i2 ⊢
      rw [e, ek]
      simp only [bits6, List.cons_append, List.nil_append]
      rw [eight_cons, eight_cons, eight_cons, show 8 * (6 * r.length / 8 + 1 + 1 + 1) = 8 * (6 * r.length / 8) + 24 by omega]
      have i1' : chop8 (6 * r.length / 8) (bits6F r) = (outsP r).1 := i1
      simp only [outsP, bit_dig, List.drop_succ_cons, i1']
      exact ⟨by rw [y1_bits _ _ ha hb, y2_bits _ _ hb hc, y3_bits _ _ hc hd], i2⟩
theorem outsP_append : ∀ (n : Nat) (l r : List UInt8), l.length = 4 * n → (outsP (l ++ r)).1 = (outsP l).1 ++ (outsP r).1 ∧ (outsP (l ++ r)).2 = (outsP r).2 ∧ (outsP l).1.length = 3 * n := by
  intro n
  induction n with
  | zero =>
    intro l r h
    rw [List.length_eq_zero_iff.1 (by omega : l.length = 0)]
    exact ⟨rfl, rfl, rfl⟩
  | succ n ih =>
    intro l r h
    match l, h with
    | a :: b :: c :: d :: l, h =>
      obtain ⟨h1, h2, h3⟩ := ih l r (by simp at h; omega)
      simp only [List.cons_append, outsP, h1, h2, List.length_cons, h3]
      exact ⟨trivial, trivial, by omega⟩
/-- four letters' number (nothing for what is not there), and its bytes -/
def num4 (q : List UInt8) : Nat := ((sixV (q.getD 0 0) * 64 + sixV (q.getD 1 0)) * 64 + sixV (q.getD 2 0)) * 64 + sixV (q.getD 3 0)
def bytes3 (n : Nat) : List UInt8 := [UInt8.ofNat (n / 65536), UInt8.ofNat (n / 256), UInt8.ofNat n]
theorem six_zero : sixV 0 = 0 := by decide +kernel
theorem ofNat_congr (a b : Nat) (h : a % 256 = b % 256) : UInt8.ofNat a = UInt8.ofNat b := by
  apply UInt8.toNat_inj.1
  simp [h]
theorem num4_lt (q : List UInt8) : num4 q < 16777216 := by
  unfold num4
  have h0 := six_lt (q.getD 0 0)
  have h1 := six_lt (q.getD 1 0)
  have h2 := six_lt (q.getD 2 0)
  have h3 := six_lt (q.getD 3 0)
  omega
theorem outs_q (q : List UInt8) (h : 2 ≤ q.length) : (outsP (q.take 4)).1 = (bytes3 (num4 q)).take (min 4 q.length - 1) ∧ ((outsP (q.take 4)).2 ≠ 0 ↔ num4 q % 2 ^ (8 * (4 - min 4 q.length)) ≠ 0) := by
  match q, h with
  | [a, b], _ =>
    have ha := six_lt a
    have hb := six_lt b
    have e : num4 [a, b] = (sixV a * 64 + sixV b) * 4096 := by simp [num4, six_zero]; omega
    rw [e]
    simp only [List.length_cons, List.length_nil, List.take_succ_cons, List.take_nil, outsP, bytes3]
    refine ⟨?_, ?_⟩
    · simp only [show min 4 (0 + 1 + 1) - 1 = 1 from rfl, List.take_succ_cons, List.take_zero]
      rw [ofNat_congr (sixV a * 4 + sixV b / 16) ((sixV a * 64 + sixV b) * 4096 / 65536) (by omega)]
    · rw [show 8 * (4 - min 4 (0 + 1 + 1)) = 16 from rfl]; omega
  | [a, b, c], _ =>
    have ha := six_lt a
    have hb := six_lt b
    have hc := six_lt c
    have e : num4 [a, b, c] = ((sixV a * 64 + sixV b) * 64 + sixV c) * 64 := by simp [num4, six_zero]
    rw [e]
    simp only [List.length_cons, List.length_nil, List.take_succ_cons, List.take_nil, outsP, bytes3]
    refine ⟨?_, ?_⟩
    · simp only [show min 4 (0 + 1 + 1 + 1) - 1 = 2 from rfl, List.take_succ_cons, List.take_zero]
      rw [ofNat_congr (sixV a * 4 + sixV b / 16) (((sixV a * 64 + sixV b) * 64 + sixV c) * 64 / 65536) (by omega), ofNat_congr (sixV b % 16 * 16 + sixV c / 4) (((sixV a * 64 + sixV b) * 64 + sixV c) * 64 / 256) (by omega)]
    · rw [show 8 * (4 - min 4 (0 + 1 + 1 + 1)) = 8 from rfl]; omega
  | a :: b :: c :: d :: r, _ =>
    have ha := six_lt a
    have hb := six_lt b
    have hc := six_lt c
    have hd := six_lt d
    have e : num4 (a :: b :: c :: d :: r) = ((sixV a * 64 + sixV b) * 64 + sixV c) * 64 + sixV d := by simp [num4]
    rw [e]
    simp only [List.take_succ_cons, List.take_zero, outsP, bytes3]
    have hm : min 4 (a :: b :: c :: d :: r).length = 4 := by simp
    rw [hm]
    refine ⟨?_, ?_⟩
    · simp only [show 4 - 1 = 3 from rfl, List.take_succ_cons, List.take_zero]
      rw [ofNat_congr (sixV a * 4 + sixV b / 16) ((((sixV a * 64 + sixV b) * 64 + sixV c) * 64 + sixV d) / 65536) (by omega), ofNat_congr (sixV b % 16 * 16 + sixV c / 4) ((((sixV a * 64 + sixV b) * 64 + sixV c) * 64 + sixV d) / 256) (by omega), ofNat_congr (sixV c % 4 * 64 + sixV d) (((sixV a * 64 + sixV b) * 64 + sixV c) * 64 + sixV d) (by omega)]
    · simp [Nat.mod_one]
theorem outs_step (b : List UInt8) (g : Nat) (h : 4 * g + 2 ≤ b.length) : (outsP (b.take (4 * g + 4))).1 = (outsP (b.take (4 * g))).1 ++ (bytes3 (num4 (b.drop (4 * g)))).take (min 4 (b.length - 4 * g) - 1) ∧
    ((outsP (b.take (4 * g + 4))).2 ≠ 0 ↔ num4 (b.drop (4 * g)) % 2 ^ (8 * (4 - min 4 (b.length - 4 * g))) ≠ 0) := by
  obtain ⟨h1, h2, _⟩ := outsP_append g (b.take (4 * g)) ((b.drop (4 * g)).take 4) (by rw [List.length_take]; omega)
  obtain ⟨h3, h4⟩ := outs_q (b.drop (4 * g)) (by rw [List.length_drop]; omega)
  rw [List.length_drop] at h3 h4
  rw [List.take_add, h1, h2, h3]
  exact ⟨rfl, h4⟩
/-- what a value of Base64 is, letters alone -/
def unbaseP (r : List UInt8) : List UInt8 × Nat × Int :=
  if r.length % 4 ≠ 0 then ([], 7, -1) else if badI isSix (body r) < (body r).length then ([], 3, ((badI isSix (body r) + 2 : Nat) : Int)) else
  if (outsP (body r)).2 ≠ 0 then ([], 3, (((body r).length + 1 : Nat) : Int)) else ((outsP (body r)).1, 0, -1)
theorem cutE_not (r : List UInt8) (h : ¬ r.getLast? = some 61) : cutE r = r := if_neg h
theorem cutE_snoc (r : List UInt8) : cutE (r ++ [61]) = r := by unfold cutE; rw [if_pos (by simp)]; simp
/-- what is cut away -/
theorem body_form (r : List UInt8) : (body r = r ∧ ¬ r.getLast? = some 61) ∨ (∃ p, r = p ++ [61] ∧ body r = p ∧ ¬ p.getLast? = some 61) ∨ (∃ q, r = q ++ [61] ++ [61] ∧ body r = q) := by
  by_cases h : r.getLast? = some 61
  · obtain ⟨p, rfl⟩ := List.getLast?_eq_some_iff.1 h
    by_cases h2 : p.getLast? = some 61
    · obtain ⟨q, rfl⟩ := List.getLast?_eq_some_iff.1 h2
      exact .inr (.inr ⟨q, rfl, by unfold body; rw [cutE_snoc, cutE_snoc]⟩)
    · exact .inr (.inl ⟨p, rfl, by unfold body; rw [cutE_snoc, cutE_not p h2], h2⟩)
  · exact .inl ⟨by unfold body; rw [cutE_not r h, cutE_not r h], h⟩
theorem body_pos (r : List UInt8) : ∃ k, k ≤ 2 ∧ r.length = (body r).length + k ∧ (∀ j, (body r).length ≤ j → j < r.length → r[j]? = some 61) ∧ (∀ j, j < (body r).length → (body r)[j]? = r[j]?) ∧
    (∀ j, j + 1 = r.length → r[j]? = some 61 → 1 ≤ k) ∧ (∀ j, j + 2 = r.length → r[j]? = some 61 → r[j + 1]? = some 61 → 2 ≤ k) := by
  rcases body_form r with ⟨e, h⟩ | ⟨p, hr, e, h⟩ | ⟨q, hr, e⟩
  · refine ⟨0, by omega, by rw [e]; rfl, fun j h1 h2 => by rw [e] at h1; omega, fun j _ => by rw [e], fun j h1 h2 => ?_, fun j h1 _ h2 => ?_⟩
    · exact absurd (by rw [List.getLast?_eq_getElem?, ← h1]; simpa using h2) h
    · exact absurd (by rw [List.getLast?_eq_getElem?, ← h1]; simpa using h2) h
  · refine ⟨1, by omega, by rw [e, hr]; simp, fun j h1 h2 => ?_, fun j h1 => ?_, fun _ _ _ => by omega, fun j h1 h2 _ => ?_⟩
    · rw [e] at h1
      rw [hr] at h2 ⊢
      have : j = p.length := by simp at h2; omega
      subst this
      simp
    · rw [e] at h1 ⊢
      rw [hr, List.getElem?_append_left h1]
    · rw [hr] at h1 h2
      have h3 : j + 1 = p.length := by simp at h1; omega
      rw [List.getElem?_append_left (by omega)] at h2
      exact absurd (by rw [List.getLast?_eq_getElem?, ← h3]; simpa using h2) h
  · refine ⟨2, by omega, by rw [e, hr]; simp, fun j h1 h2 => ?_, fun j h1 => ?_, fun _ _ _ => by omega, fun _ _ _ _ => by omega⟩
    · rw [e] at h1
      rw [hr] at h2 ⊢
      have : j = q.length ∨ j = q.length + 1 := by simp at h2; omega
      rcases this with rfl | rfl
      · simp
      · simp
    · rw [e] at h1 ⊢
      rw [hr, List.append_assoc, List.getElem?_append_left h1]
end QBin
end Go.Proofs.YtejbigoacknfoaaGreatDoor
