/- MD5 as plain arithmetic. -/
import Derived.Test.YtejbigoacknfoaaGreatDoorBase
import Derived.Test.YtejbigoacknfoaaGreatDoorCrcPure
set_option linter.unusedSectionVars false
set_option linter.unusedSimpArgs false
set_option linter.unusedVariables false
namespace Go.Proofs.YtejbigoacknfoaaGreatDoor
open Go Go.RowKit
set_option linter.unusedVariables false
set_option maxRecDepth 100000
namespace QMd
def sines : List Nat := [0xd76aa478, 0xe8c7b756, 0x242070db, 0xc1bdceee, 0xf57c0faf, 0x4787c62a, 0xa8304613, 0xfd469501, 0x698098d8, 0x8b44f7af, 0xffff5bb1, 0x895cd7be, 0x6b901122, 0xfd987193, 0xa679438e, 0x49b40821,
  0xf61e2562, 0xc040b340, 0x265e5a51, 0xe9b6c7aa, 0xd62f105d, 0x02441453, 0xd8a1e681, 0xe7d3fbc8, 0x21e1cde6, 0xc33707d6, 0xf4d50d87, 0x455a14ed, 0xa9e3e905, 0xfcefa3f8, 0x676f02d9, 0x8d2a4c8a,
  0xfffa3942, 0x8771f681, 0x6d9d6122, 0xfde5380c, 0xa4beea44, 0x4bdecfa9, 0xf6bb4b60, 0xbebfbc70, 0x289b7ec6, 0xeaa127fa, 0xd4ef3085, 0x04881d05, 0xd9d4d039, 0xe6db99e5, 0x1fa27cf8, 0xc4ac5665,
  0xf4292244, 0x432aff97, 0xab9423a7, 0xfc93a039, 0x655b59c3, 0x8f0ccc92, 0xffeff47d, 0x85845dd1, 0x6fa87e4f, 0xfe2ce6e0, 0xa3014314, 0x4e0811a1, 0xf7537e82, 0xbd3af235, 0x2ad7d2bb, 0xeb86d391]
def turns : List Nat := [7, 12, 17, 22, 5, 9, 14, 20, 4, 11, 16, 23, 6, 10, 15, 21]
def sineN (i : Nat) : Nat := sines.getD i 0
def turnN (i : Nat) : Nat := turns.getD (i / 16 * 4 + i % 4) 0
def atN (i : Nat) : Nat := if i < 16 then i else if i < 32 then (5 * i + 1) % 16 else if i < 48 then (3 * i + 5) % 16 else 7 * i % 16
def mixN (i b c d : Nat) : Nat := if i < 16 then d ^^^ (b &&& (c ^^^ d)) else if i < 32 then c ^^^ (d &&& (b ^^^ c)) else if i < 48 then b ^^^ c ^^^ d else c ^^^ (b ||| (4294967295 - d))
def rotN (x k : Nat) : Nat := (x * 2 ^ k % 4294967296) ||| (x / 2 ^ (32 - k))
/-- the number at a place of a block -/
def wordN (l : List UInt8) (g : Nat) : Nat := (l.getD (4 * g) 0).toNat + (l.getD (4 * g + 1) 0).toNat * 256 + (l.getD (4 * g + 2) 0).toNat * 65536 + (l.getD (4 * g + 3) 0).toNat * 16777216
structure St where
  a : Nat
  b : Nat
  c : Nat
  d : Nat
def stepN (l : List UInt8) (i : Nat) (s : St) : St :=
  ⟨s.d, (s.b + rotN ((s.a + mixN i s.b s.c s.d + sineN i + wordN l (atN i)) % 4294967296) (turnN i)) % 4294967296, s.b, s.c⟩
def roundsN (l : List UInt8) : Nat → St → St
  | 0, s => s
  | k + 1, s => stepN l k (roundsN l k s)
def addN (s t : St) : St := ⟨(s.a + t.a) % 4294967296, (s.b + t.b) % 4294967296, (s.c + t.c) % 4294967296, (s.d + t.d) % 4294967296⟩
def blockN (r : Nat) (l : List UInt8) (s : St) : St := addN s (roundsN l r s)
def blocksN (r : Nat) : Nat → List UInt8 → St → St
  | 0, _, s => s
  | n + 1, l, s => blocksN r n (l.drop 64) (blockN r l s)
def St.lt (s : St) : Prop := s.a < 4294967296 ∧ s.b < 4294967296 ∧ s.c < 4294967296 ∧ s.d < 4294967296
theorem stepN_lt (l : List UInt8) (i : Nat) (s : St) (h : s.lt) : (stepN l i s).lt := ⟨h.2.2.2, Nat.mod_lt _ (by omega), h.2.1, h.2.2.1⟩
theorem roundsN_lt (l : List UInt8) (k : Nat) (s : St) (h : s.lt) : (roundsN l k s).lt := by
  induction k with
  | zero => exact h
  | succ k ih => exact stepN_lt _ _ _ ih
theorem addN_lt (s t : St) : (addN s t).lt := ⟨Nat.mod_lt _ (by omega), Nat.mod_lt _ (by omega), Nat.mod_lt _ (by omega), Nat.mod_lt _ (by omega)⟩
def first : St := ⟨0x67452301, 0xefcdab89, 0x98badcfe, 0x10325476⟩
/-- how many noughts stand behind a text -/
def zerosN (n : Nat) : Nat := (119 - n % 64) % 64
def leN (n : Nat) : Nat → List UInt8
  | 0 => []
  | k + 1 => UInt8.ofNat n :: leN (n / 256) k
def padL (l : List UInt8) : List UInt8 := l ++ [128] ++ List.replicate (zerosN l.length) 0 ++ leN (8 * l.length) 8
theorem leN_len (n k : Nat) : (leN n k).length = k := by
  induction k generalizing n with
  | zero => rfl
  | succ k ih => rw [leN, List.length_cons, ih]
theorem leN_snoc (n k : Nat) : leN n (k + 1) = leN n k ++ [UInt8.ofNat (n / 256 ^ k)] := by
  induction k generalizing n with
  | zero => simp [leN]
  | succ k ih =>
    rw [leN, ih (n / 256), leN, List.cons_append, Nat.div_div_eq_div_mul, Nat.pow_succ, Nat.mul_comm 256]
theorem padL_len (l : List UInt8) : (padL l).length = (l.length + 72) / 64 * 64 := by
  unfold padL zerosN
  simp only [List.length_append, List.length_singleton, List.length_replicate, leN_len]
  omega
def outL (s : St) : List UInt8 := leN s.a 4 ++ leN s.b 4 ++ leN s.c 4 ++ leN s.d 4
def md5L (l : List UInt8) : List UInt8 := outL (blocksN 64 ((padL l).length / 64) (padL l) first)
theorem turn_bd (i : Nat) (h : i < 64) : 4 ≤ turnN i ∧ turnN i ≤ 23 := by
  have : ∀ k : Fin 64, 4 ≤ turnN k.val ∧ turnN k.val ≤ 23 := by decide +kernel
  exact this ⟨i, h⟩
theorem at_lt (i : Nat) (h : i < 64) : atN i < 16 := by
  have : ∀ k : Fin 64, atN k.val < 16 := by decide +kernel
  exact this ⟨i, h⟩
theorem sine_lt (i : Nat) : sineN i < 4294967296 := by
  unfold sineN
  by_cases h : i < 64
  · have : ∀ k : Fin 64, sines.getD k.val 0 < 4294967296 := by decide +kernel
    exact this ⟨i, h⟩
  · rw [List.getD, List.getElem?_eq_none (by rw [show sines.length = 64 from rfl]; omega)]; simp
theorem word_lt (l : List UInt8) (g : Nat) : wordN l g < 4294967296 := by
  unfold wordN
  have h0 := (l.getD (4 * g) 0).toNat_lt
  have h1 := (l.getD (4 * g + 1) 0).toNat_lt
  have h2 := (l.getD (4 * g + 2) 0).toNat_lt
  have h3 := (l.getD (4 * g + 3) 0).toNat_lt
  omega
/-! ### the program's mixes are the document's -/
theorem ones_bit (i : Nat) : (4294967295 : Nat).testBit i = decide (i < 32) := by
  rw [show (4294967295 : Nat) = 2 ^ 32 - 1 from rfl, Nat.testBit_two_pow_sub_one]
theorem not_bit (n i : Nat) (h : n < 4294967296) : (4294967295 - n).testBit i = (decide (i < 32) && !n.testBit i) := by
  have := Nat.testBit_two_pow_sub_succ (n := 32) (x := n) h i
  rw [show (2 ^ 32 - (n + 1) : Nat) = 4294967295 - n by omega] at this
  exact this
theorem high_bit (n i : Nat) (h : n < 4294967296) (hi : ¬ i < 32) : n.testBit i = false :=
  Nat.testBit_lt_two_pow (Nat.lt_of_lt_of_le h (Nat.pow_le_pow_right (n := 2) (by omega) (show 32 ≤ i by omega)))
theorem mix0 (b c d : Nat) (hb : b < 4294967296) (hc : c < 4294967296) (hd : d < 4294967296) : (b &&& c) ||| ((4294967295 - b) &&& d) = d ^^^ (b &&& (c ^^^ d)) := by
  apply Nat.eq_of_testBit_eq
  intro i
  simp only [Nat.testBit_or, Nat.testBit_and, Nat.testBit_xor, not_bit b i hb]
  by_cases hi : i < 32
  · rw [decide_eq_true hi]
    cases b.testBit i <;> cases c.testBit i <;> cases d.testBit i <;> rfl
  · rw [decide_eq_false hi, high_bit b i hb hi, high_bit c i hc hi, high_bit d i hd hi]; rfl
theorem mix_lt (i b c d : Nat) (hb : b < 4294967296) (hc : c < 4294967296) (hd : d < 4294967296) : mixN i b c d < 4294967296 := by
  have x : ∀ {u v : Nat}, u < 4294967296 → v < 4294967296 → u ^^^ v < 4294967296 := fun h1 h2 => Nat.xor_lt_two_pow (n := 32) h1 h2
  have o : ∀ {u v : Nat}, u < 4294967296 → v < 4294967296 → u ||| v < 4294967296 := fun h1 h2 => Nat.or_lt_two_pow (n := 32) h1 h2
  have a : ∀ {u v : Nat}, v < 4294967296 → u &&& v < 4294967296 := fun h2 => Nat.and_lt_two_pow _ (n := 32) h2
  unfold mixN
  split
  · exact x hd (a (x hc hd))
  · split
    · exact x hc (a (x hb hc))
    · split
      · exact x (x hb hc) hd
      · exact x hc (o hb (by omega))
theorem rot_lt (x k : Nat) (h : x < 4294967296) : rotN x k < 4294967296 :=
  Nat.or_lt_two_pow (n := 32) (Nat.mod_lt _ (by omega)) (Nat.lt_of_le_of_lt (Nat.div_le_self _ _) h)
/-- the state behind so many blocks -/
def stN (r : Nat) (L : List UInt8) : Nat → St
  | 0 => first
  | i + 1 => blockN r (L.drop (64 * i)) (stN r L i)
theorem blocks_stN (r : Nat) (L : List UInt8) (k i : Nat) : blocksN r k (L.drop (64 * i)) (stN r L i) = stN r L (i + k) := by
  induction k generalizing i with
  | zero => rfl
  | succ k ih =>
    rw [blocksN, List.drop_drop, show 64 * i + 64 = 64 * (i + 1) by omega, ← stN, ih (i + 1), show i + 1 + k = i + (k + 1) by omega]
theorem blocks_st0 (r : Nat) (L : List UInt8) (k : Nat) : blocksN r k L first = stN r L k := by
  have := blocks_stN r L k 0
  rwa [Nat.mul_zero, List.drop_zero, Nat.zero_add] at this
theorem md5L_stN (l : List UInt8) : md5L l = outL (stN 64 (padL l) ((padL l).length / 64)) := by
  rw [md5L, blocks_st0]
theorem first_lt : first.lt := ⟨by decide, by decide, by decide, by decide⟩
theorem stN_lt (r : Nat) (L : List UInt8) (i : Nat) : (stN r L i).lt := by
  cases i with
  | zero => exact first_lt
  | succ i => exact addN_lt _ _
/-- the numbers of a block, of which so many are there -/
def wordL (l : List UInt8) (k : Nat) : List Nat := (List.range k).map (wordN l) ++ List.replicate (16 - k) 0
end QMd
end Go.Proofs.YtejbigoacknfoaaGreatDoor
