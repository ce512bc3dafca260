/- Binary values in plain Lean: hexadecimal and Base64, forth. -/
import Derived.Test.YtejbigoacknfoaaGreatDoorFmt
import Derived.Test.YtejbigoacknfoaaGreatDoorPInt
set_option linter.unusedSectionVars false
set_option linter.unusedSimpArgs false
set_option linter.unusedVariables false
namespace Go.Proofs.YtejbigoacknfoaaGreatDoor
open Go Go.RowKit
set_option linter.unusedVariables false
set_option linter.unusedSectionVars false
set_option linter.unusedSimpArgs false
set_option maxRecDepth 100000
namespace QBin
/-- a number's digits, so many at least -/
def padN (b k n : Nat) : List UInt8 := List.replicate (k - (fmtP b n).length) 48 ++ fmtP b n
def hex2 (n : Nat) : List UInt8 := [digU (n / 16), digU (n % 16)]
def bit (n i : Nat) : UInt8 := if n / 2 ^ i % 2 = 1 then 49 else 48
def bits8 (n : Nat) : List UInt8 := [bit n 7, bit n 6, bit n 5, bit n 4, bit n 3, bit n 2, bit n 1, bit n 0]
def bits6 (n : Nat) : List UInt8 := [bit n 5, bit n 4, bit n 3, bit n 2, bit n 1, bit n 0]
theorem pad_hex (n : Nat) (h : n < 256) : padN 16 2 n = hex2 n := by
  have : ∀ j : Fin 256, padN 16 2 j.val = hex2 j.val := by decide +kernel
  exact this ⟨n, h⟩
theorem pad_bits8 (n : Nat) (h : n < 256) : padN 2 8 n = bits8 n := by
  have : ∀ j : Fin 256, padN 2 8 j.val = bits8 j.val := by decide +kernel
  exact this ⟨n, h⟩
theorem pad_bits6 (n : Nat) (h : n < 64) : padN 2 6 n = bits6 n := by
  have : ∀ j : Fin 64, padN 2 6 j.val = bits6 j.val := by decide +kernel
  exact this ⟨n, h⟩
theorem fmt_len (b n : Nat) (hb : b = 2 ∨ b = 16) (h : n < 256) : 1 ≤ (fmtP b n).length ∧ (fmtP b n).length ≤ 8 := by
  have h2 : ∀ j : Fin 256, 1 ≤ (fmtP 2 j.val).length ∧ (fmtP 2 j.val).length ≤ 8 := by decide +kernel
  have h16 : ∀ j : Fin 256, 1 ≤ (fmtP 16 j.val).length ∧ (fmtP 16 j.val).length ≤ 8 := by decide +kernel
  rcases hb with rfl | rfl
  · exact h2 ⟨n, h⟩
  · exact h16 ⟨n, h⟩
theorem bit_dig (n i : Nat) : digV (bit n i) = n / 2 ^ i % 2 := by
  unfold bit
  split
  · rename_i h; rw [h]; decide
  · rename_i h
    rw [show n / 2 ^ i % 2 = 0 by omega]; decide
theorem bit_lt (n i : Nat) : digV (bit n i) < 2 := by rw [bit_dig]; omega
/-- the hexadecimal form -/
def hexF (l : List UInt8) : List UInt8 := l.flatMap fun c => hex2 c.toNat
def hexP (l : List UInt8) : List UInt8 := [48, 120] ++ hexF l
theorem hexF_take (l : List UInt8) (k : Nat) (c : UInt8) (h : l[k]? = some c) : hexF (l.take (k + 1)) = hexF (l.take k) ++ hex2 c.toNat := by
  obtain ⟨h1, h2⟩ := List.getElem?_eq_some_iff.1 h
  rw [List.take_succ_eq_append_getElem h1, h2]
  simp [hexF]
theorem hexF_len (l : List UInt8) : (hexF l).length = 2 * l.length := by
  induction l with
  | nil => rfl
  | cons a l ih => simp [hexF, hex2] at *; omega
def bitsF (l : List UInt8) : List UInt8 := l.flatMap fun c => bits8 c.toNat
theorem bitsF_take (l : List UInt8) (k : Nat) (c : UInt8) (h : l[k]? = some c) : bitsF (l.take (k + 1)) = bitsF (l.take k) ++ bits8 c.toNat := by
  obtain ⟨h1, h2⟩ := List.getElem?_eq_some_iff.1 h
  rw [List.take_succ_eq_append_getElem h1, h2]
  simp [bitsF]
theorem bitsF_len (l : List UInt8) : (bitsF l).length = 8 * l.length := by
  induction l with
  | nil => rfl
  | cons a l ih => simp [bitsF, bits8] at *; omega
theorem bitsF_lt (l : List UInt8) : ∀ c ∈ bitsF l, digV c < 2 := by
  intro c hc
  unfold bitsF at hc
  rw [List.mem_flatMap] at hc
  obtain ⟨x, _, hx⟩ := hc
  unfold bits8 at hx
  simp at hx
  rcases hx with rfl | rfl | rfl | rfl | rfl | rfl | rfl | rfl <;> exact bit_lt _ _
def letters : List UInt8 := [65, 66, 67, 68, 69, 70, 71, 72, 73, 74, 75, 76, 77, 78, 79, 80, 81, 82, 83, 84, 85, 86, 87, 88, 89, 90, 97, 98, 99, 100, 101, 102, 103, 104, 105, 106, 107, 108, 109, 110, 111, 112, 113, 114, 115, 116, 117, 118, 119, 120, 121, 122, 48, 49, 50, 51, 52, 53, 54, 55, 56, 57, 43, 47]
def letN (n : Nat) : UInt8 := letters.getD n 0
def padZ (l : List UInt8) : List UInt8 := l ++ List.replicate ((6 - l.length % 6) % 6) 48
/-- six bits a letter -/
def chop6 : Nat → List UInt8 → List UInt8
  | 0, _ => []
  | k + 1, l => letN (valD 2 (l.take 6)) :: chop6 k (l.drop 6)
theorem chop6_succ (k : Nat) (l : List UInt8) : chop6 (k + 1) l = chop6 k l ++ [letN (valD 2 ((l.drop (6 * k)).take 6))] := by
  induction k generalizing l with
  | zero => simp [chop6]
  | succ k ih =>
    rw [chop6, ih, chop6, List.cons_append, List.drop_drop, show 6 + 6 * k = 6 * (k + 1) by omega]
theorem chop6_len (k : Nat) (l : List UInt8) : (chop6 k l).length = k := by
  induction k generalizing l with
  | zero => rfl
  | succ k ih => simp [chop6, ih]
def eqs (n : Nat) : List UInt8 := List.replicate ((4 - n % 4) % 4) 61
def ref64 (l : List UInt8) : List UInt8 := [48, 98] ++ chop6 ((8 * l.length + 5) / 6) (padZ (bitsF l)) ++ eqs ((8 * l.length + 5) / 6)
/-- three bytes, four letters -/
def num3 (l : List UInt8) : Nat := (l.getD 0 0).toNat * 65536 + (l.getD 1 0).toNat * 256 + (l.getD 2 0).toNat
def grp (l : List UInt8) : List UInt8 :=
  [letN (num3 l / 262144 % 64), letN (num3 l / 4096 % 64), if l.length < 2 then 61 else letN (num3 l / 64 % 64), if l.length < 3 then 61 else letN (num3 l % 64)]
def grps : Nat → List UInt8 → List UInt8
  | 0, _ => []
  | k + 1, l => grp l ++ grps k (l.drop 3)
theorem grps_succ (k : Nat) (l : List UInt8) : grps (k + 1) l = grps k l ++ grp (l.drop (3 * k)) := by
  induction k generalizing l with
  | zero => simp [grps]
  | succ k ih =>
    rw [grps, ih, grps, List.append_assoc, List.drop_drop, show 3 + 3 * k = 3 * (k + 1) by omega]
theorem grps_len (k : Nat) (l : List UInt8) : (grps k l).length = 4 * k := by
  induction k generalizing l with
  | zero => rfl
  | succ k ih => simp [grps, ih, grp]; omega
def prog64 (l : List UInt8) : List UInt8 := [48, 98] ++ grps ((l.length + 2) / 3) l
theorem val6 (a b c d e f : UInt8) : valD 2 [a, b, c, d, e, f] = ((((digV a * 2 + digV b) * 2 + digV c) * 2 + digV d) * 2 + digV e) * 2 + digV f := by
  simp [valD]
theorem dig48 : digV 48 = 0 := by decide
theorem six_cons (a b c d e f : UInt8) (r : List UInt8) (k : Nat) : chop6 (k + 1) (a :: b :: c :: d :: e :: f :: r) = letN (((((digV a * 2 + digV b) * 2 + digV c) * 2 + digV d) * 2 + digV e) * 2 + digV f) :: chop6 k r := by
  rw [chop6]
  simp only [List.take_succ_cons, List.take_zero, List.drop_succ_cons, List.drop_zero]
  rw [val6]
theorem w1_bits (x : Nat) (h : x < 256) : ((((x / 2 ^ 7 % 2 * 2 + x / 2 ^ 6 % 2) * 2 + x / 2 ^ 5 % 2) * 2 + x / 2 ^ 4 % 2) * 2 + x / 2 ^ 3 % 2) * 2 + x / 2 ^ 2 % 2 = x / 4 := by omega
theorem w2_bits (x y : Nat) (h : x < 256) (h2 : y < 256) : ((((x / 2 ^ 1 % 2 * 2 + x / 2 ^ 0 % 2) * 2 + y / 2 ^ 7 % 2) * 2 + y / 2 ^ 6 % 2) * 2 + y / 2 ^ 5 % 2) * 2 + y / 2 ^ 4 % 2 = x % 4 * 16 + y / 16 := by omega
theorem w3_bits (x y : Nat) (h : x < 256) (h2 : y < 256) : ((((x / 2 ^ 3 % 2 * 2 + x / 2 ^ 2 % 2) * 2 + x / 2 ^ 1 % 2) * 2 + x / 2 ^ 0 % 2) * 2 + y / 2 ^ 7 % 2) * 2 + y / 2 ^ 6 % 2 = x % 16 * 4 + y / 64 := by omega
theorem w4_bits (x : Nat) (h : x < 256) : ((((x / 2 ^ 5 % 2 * 2 + x / 2 ^ 4 % 2) * 2 + x / 2 ^ 3 % 2) * 2 + x / 2 ^ 2 % 2) * 2 + x / 2 ^ 1 % 2) * 2 + x / 2 ^ 0 % 2 = x % 64 := by omega
theorem w1_num (x y z : Nat) (h : x < 256) (h2 : y < 256) (h3 : z < 256) : (x * 65536 + y * 256 + z) / 262144 % 64 = x / 4 := by omega
theorem w2_num (x y z : Nat) (h : x < 256) (h2 : y < 256) (h3 : z < 256) : (x * 65536 + y * 256 + z) / 4096 % 64 = x % 4 * 16 + y / 16 := by omega
theorem w3_num (x y z : Nat) (h : x < 256) (h2 : y < 256) (h3 : z < 256) : (x * 65536 + y * 256 + z) / 64 % 64 = y % 16 * 4 + z / 64 := by omega
theorem w4_num (x y z : Nat) (h : x < 256) (h2 : y < 256) (h3 : z < 256) : (x * 65536 + y * 256 + z) % 64 = z % 64 := by omega
theorem eq64 : ∀ n : Nat, ∀ l : List UInt8, l.length ≤ n → chop6 ((8 * l.length + 5) / 6) (padZ (bitsF l)) ++ eqs ((8 * l.length + 5) / 6) = grps ((l.length + 2) / 3) l := by
  intro n
  induction n with
  | zero =>
    intro l hl
    obtain rfl : l = [] := List.length_eq_zero_iff.1 (by omega)
    rfl
  | succ n ih =>
    intro l hl
    match l, hl with
    | [], _ => rfl
    | [a], _ =>
      have ha := a.toNat_lt
      rw [show (8 * [a].length + 5) / 6 = 0 + 1 + 1 by simp, show ([a].length + 2) / 3 = 1 by simp]
      rw [show bitsF [a] = bits8 a.toNat by simp [bitsF]]
      simp only [padZ, bits8, List.length_cons, List.length_nil]
      simp only [List.cons_append, List.nil_append, List.replicate, show (6 - (0 + 1 + 1 + 1 + 1 + 1 + 1 + 1 + 1) % 6) % 6 = 4 from rfl]
      rw [six_cons, six_cons]
      simp only [bit_dig, dig48, chop6, grps, grp, num3, eqs, List.getD_cons_zero, List.getD_cons_succ, List.getD_nil, List.length_cons, List.length_nil, List.append_nil, List.cons_append, List.nil_append]
      simp
      refine ⟨congrArg letN ?_, congrArg letN ?_⟩ <;> omega
    | [a, b], _ =>
      have ha := a.toNat_lt
      have hb := b.toNat_lt
      rw [show (8 * [a, b].length + 5) / 6 = 0 + 1 + 1 + 1 by simp, show ([a, b].length + 2) / 3 = 1 by simp]
      rw [show bitsF [a, b] = bits8 a.toNat ++ bits8 b.toNat by simp [bitsF]]
      simp only [padZ, bits8, List.length_cons, List.length_nil, List.length_append]
      simp only [List.cons_append, List.nil_append, List.replicate, show (6 - (0 + 1 + 1 + 1 + 1 + 1 + 1 + 1 + 1 + (0 + 1 + 1 + 1 + 1 + 1 + 1 + 1 + 1)) % 6) % 6 = 2 from rfl]
      rw [six_cons, six_cons, six_cons]
      simp only [bit_dig, dig48, chop6, grps, grp, num3, eqs, List.getD_cons_zero, List.getD_cons_succ, List.getD_nil, List.length_cons, List.length_nil, List.append_nil, List.cons_append, List.nil_append]
      simp
      refine ⟨congrArg letN ?_, congrArg letN ?_, congrArg letN ?_⟩ <;> omega
    | a :: b :: c :: r, hl =>
      have ha := a.toNat_lt
      have hb := b.toNat_lt
      have hc := c.toNat_lt
      have hr := ih r (by simp at hl; omega)
      have e1 : (8 * (a :: b :: c :: r).length + 5) / 6 = (8 * r.length + 5) / 6 + 1 + 1 + 1 + 1 := by simp; omega
      have e2 : ((a :: b :: c :: r).length + 2) / 3 = (r.length + 2) / 3 + 1 := by simp; omega
      have e3 : padZ (bitsF (a :: b :: c :: r)) = bits8 a.toNat ++ (bits8 b.toNat ++ (bits8 c.toNat ++ padZ (bitsF r))) := by
        unfold padZ
        rw [show (bitsF (a :: b :: c :: r)).length % 6 = (bitsF r).length % 6 by rw [bitsF_len, bitsF_len]; simp; omega]
        simp [bitsF]
      rw [e1, e2, e3]
      rw [show eqs ((8 * r.length + 5) / 6 + 1 + 1 + 1 + 1) = eqs ((8 * r.length + 5) / 6) by unfold eqs; congr 1; omega]
      simp only [bits8, List.cons_append, List.nil_append]
      rw [six_cons, six_cons, six_cons, six_cons, grps]
      rw [show List.drop 3 (a :: b :: c :: r) = r from rfl, ← hr]
      simp only [bit_dig, grp, num3, List.getD_cons_zero, List.getD_cons_succ, List.length_cons, List.cons_append, List.nil_append]
      rw [if_neg (by omega), if_neg (by omega)]
      rw [w1_bits _ ha, w2_bits _ _ ha hb, w3_bits _ _ hb hc, w4_bits _ hc, w1_num _ _ _ ha hb hc, w2_num _ _ _ ha hb hc, w3_num _ _ _ ha hb hc, w4_num _ _ _ ha hb hc]
theorem ref64_eq (l : List UInt8) : ref64 l = prog64 l := by
  unfold ref64 prog64
  rw [List.append_assoc, eq64 l.length l (Nat.le_refl _)]
end QBin
end Go.Proofs.YtejbigoacknfoaaGreatDoor
