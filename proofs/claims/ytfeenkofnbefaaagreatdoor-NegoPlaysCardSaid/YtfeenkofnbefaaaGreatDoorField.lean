/- Numbers in so many bytes: the program and the document answer alike. -/
import Derived.Test.YtfeenkofnbefaaaGreatDoorProg
import Derived.Test.YtfeenkofnbefaaaGreatDoorBase
set_option linter.unusedSectionVars false
set_option linter.unusedSimpArgs false
set_option linter.unusedVariables false
namespace Go.Proofs.YtfeenkofnbefaaaGreatDoor
open Go.RowKit
set_option linter.unusedVariables false
set_option maxRecDepth 100000
/-- the low k bytes of a number, the highest first -/
def be (n : Nat) : Nat → List UInt8
  | 0 => []
  | k + 1 => UInt8.ofNat (n / 256 ^ k % 256) :: be n k
theorem be_length (n k : Nat) : (be n k).length = k := by induction k with | zero => rfl | succ k ih => simp [be, ih]
theorem be_set (n size k : Nat) (h : k < size) : (List.replicate (size - k) 0 ++ be n k).set (size - 1 - k) (UInt8.ofNat (n / 256 ^ k % 256)) = List.replicate (size - (k + 1)) 0 ++ be n (k + 1) := by
  rw [List.set_append_left _ _ (by simp; omega)]
  rw [show size - k = (size - (k + 1)) + 1 by omega, List.replicate_succ', List.set_append_right _ _ (by simp; omega)]
  simp [be, show size - 1 - k - (size - (k + 1)) = 0 by omega]
def putE (n : Nat) (size : Int) : Nat := if size < 0 ∨ 8 < size then 2 else if 256 ^ size.toNat ≤ n then 4 else 0
def putS (n : Nat) (size : Int) : List UInt8 := if putE n size = 0 then be n size.toNat else []
theorem pow_256 (k : Nat) : (2 : Nat) ^ (8 * k) = 256 ^ k := by rw [Nat.pow_mul]
theorem byte_shift (n k : Nat) : (n : Int) / 2 ^ (8 * k) % 256 = (((UInt8.ofNat (n / 256 ^ k % 256)).toNat : Nat) : Int) := by
  have : (n : Int) / 2 ^ (8 * k) = ((n / 256 ^ k : Nat) : Int) := by
    rw [← pow_256]; simp
  rw [this]; simp
theorem infoB : (Tryz.prog.info? 5).map (fun i => (i.zero, i.size, i.bytes)) = some (some (.int .u8 0), 1, 1) := by kernel_rfl
theorem put_ok (n : Nat) (size : Nat) (w : World) (h1 : n ≤ 18446744073709551615) (hs : size ≤ 8) (hd : n < 256 ^ size) :
    Calls Tryz.prog 149 #[.int .u64 n, .int .i64 size] w fun e w' => e = .returned (.tuple #[.string (bs (be n size)), .nilIface]) ∧ Below w.heap.size w w' := by
  have hq : ((n : Int) / 2 ^ (8 * size) != 0) = false := by
    have : (n : Int) / 2 ^ (8 * size) = ((n / 256 ^ size : Nat) : Int) := by
      rw [← pow_256]; simp
    rw [this, Nat.div_eq_of_lt hd]; rfl
  clear hd
  have hmk := make_bytes (P := Tryz.prog) 187 5 Tryz.underlying187 infoB
  have hmk1 := fun w => hmk size (by omega) w
  have hcv := conv_b (P := Tryz.prog) 187 9 5 5 Tryz.underlying187 Tryz.underlying5 Tryz.underlying9 (be n size) size size (be_length _ _)
  clear hmk
  go_enter Tryz.func149, Tryz.ntmps149
  go_wp2
  all_goals
    go_loopw [29] (fun v wr => ∃ k : Nat, k ≤ size ∧ v = .int .i64 k ∧ wr = w.alloc (.cells (bcells (List.replicate (size - k) 0 ++ be n k)) 5)) (fun v _ => size - (intOf v).toNat)
    case atStart => exact ⟨0, by omega, rfl, by simp [be]⟩
    case round =>
      obtain ⟨k, hk, rfl, rfl⟩ := hrel
      have hlen : (List.replicate (size - k) 0 ++ be n k).length = size := by simp [be_length]; omega
      by_cases hlt : k < size
      · have hset := be_set n size k hlt
        have hg := bcells_getD (List.replicate (size - k) 0 ++ be n k) (size - 1 - k) (by omega)
        have hbs := bcells_set (List.replicate (size - k) 0 ++ be n k) (size - 1 - k) (UInt8.ofNat (n / 256 ^ k % 256))
        rw [hset, ← byte_shift n k] at hbs
        have Hbs := hid hbs; clear hbs hset
        generalize List.replicate (size - k) 0 ++ be n k = l at *
        have e1 : (size : Int) - 1 - k = ((size - 1 - k : Nat) : Int) := by omega
        go_wp2
        go_roundw
        case rel => exact ⟨k + 1, by omega, by go_num, by rw [Hbs.out]⟩
        case measure => simp [intOf]; omega
      · obtain rfl : k = size := by omega
        rw [Nat.sub_self, List.replicate_zero, List.nil_append] at hlen ⊢
        go_wp2
        go_ret2
        exact ⟨rfl, (Below.refl _ _).alloc (Nat.le_refl _) _⟩
theorem put_range (n size : Int) (w : World) (hs : size < 0 ∨ 8 < size) :
    Calls Tryz.prog 149 #[.int .u64 n, .int .i64 size] w fun e w' => e = .returned (.tuple #[.string (bs []), .iface 31 (.int .i64 2)]) ∧ Below w.heap.size w w' := by
  rcases hs with hs | hs
  · go_enter Tryz.func149, Tryz.ntmps149
    go_wp2
    go_ret2
    exact ⟨rfl, Below.refl _ _⟩
  · have hs2 : ¬ size < 0 := by omega
    go_enter Tryz.func149, Tryz.ntmps149
    go_wp2
    go_ret2
    exact ⟨rfl, Below.refl _ _⟩
theorem put_limit (n : Nat) (size : Nat) (w : World) (h1 : n ≤ 18446744073709551615) (hs : size ≤ 8) (hd : 256 ^ size ≤ n) :
    Calls Tryz.prog 149 #[.int .u64 n, .int .i64 size] w fun e w' => e = .returned (.tuple #[.string (bs []), .iface 31 (.int .i64 4)]) ∧ Below w.heap.size w w' := by
  have hs8 : size < 8 := by
    rcases Nat.lt_or_ge size 8 with h | h
    · exact h
    · obtain rfl : size = 8 := by omega
      omega
  have hq : ((n : Int) / 2 ^ (8 * size) != 0) = true := by
    have : (n : Int) / 2 ^ (8 * size) = ((n / 256 ^ size : Nat) : Int) := by
      rw [← pow_256]; simp
    have h2 : 0 < n / 256 ^ size := Nat.div_pos hd (Nat.pow_pos (by omega))
    rw [this, bne_iff_ne]; omega
  clear hd
  go_enter Tryz.func149, Tryz.ntmps149
  go_wp2
  go_ret2
  exact ⟨rfl, Below.refl _ _⟩
theorem put_any (n : Nat) (size : Int) (w : World) (h1 : n ≤ 18446744073709551615) :
    Calls Tryz.prog 149 #[.int .u64 n, .int .i64 size] w fun e w' => e = .returned (.tuple #[.string (bs (putS n size)), errV 31 (putE n size)]) ∧ Below w.heap.size w w' := by
  by_cases hs : size < 0 ∨ 8 < size
  · have e : putE n size = 2 := by simp [putE, hs]
    rw [putS, e]
    exact put_range n size w hs
  · obtain ⟨k, rfl⟩ := Int.eq_ofNat_of_zero_le (show 0 ≤ size by omega)
    by_cases hd : 256 ^ k ≤ n
    · have e : putE n k = 4 := by simp [putE, hs, hd]
      rw [putS, e]
      exact put_limit n k w h1 (by omega) hd
    · have e : putE n k = 0 := by simp [putE, hs, hd]
      rw [putS, e]
      exact put_ok n k w h1 (by omega) (by omega)
/-- the number that bytes are, the highest first -/
def num (l : List UInt8) : Nat := l.foldl (fun n c => n * 256 + c.toNat) 0
theorem num_snoc (l : List UInt8) (c : UInt8) : num (l ++ [c]) = num l * 256 + c.toNat := by simp [num]
theorem num_lt (l : List UInt8) : num l < 256 ^ l.length := by
  rw [← List.reverse_reverse l]
  generalize l.reverse = r
  induction r with
  | nil => simp [num]
  | cons c r ih =>
    rw [List.reverse_cons, num_snoc, List.length_append]
    have := c.toNat_lt
    simp only [List.length_singleton, Nat.pow_succ]
    omega
theorem or_byte (n c : Nat) (hn : n < 72057594037927936) (hc : c < 256) : bits .or .u64 ((n : Int) * 256) (c : Int) = ((n * 256 + c : Nat) : Int) := by
  have := u64_or_nat (n * 256) c (by omega) (by omega)
  rw [nat_join 8 (n * 256) c (by omega) (by omega)] at this
  rw [← this]; simp
theorem get_any (s : ByteArray) (w : World) (hs : s.size ≤ 1000000):
    Calls Tryz.prog 114 #[.string s] w fun e w' => e = .returned (.tuple (if s.size ≤ 8 then #[.int .u64 (num s.data.toList), .nilIface] else #[.int .u64 0, .iface 31 (.int .i64 4)])) ∧ w = w' := by
  by_cases h8 : s.size ≤ 8
  · rw [if_pos h8]
    go_enter Tryz.func114, Tryz.ntmps114
    go_wp2
    go_loop [4, 12] (fun n i => ∃ k : Nat, k ≤ s.size ∧ i = .int .i64 k ∧ n = .int .u64 (num (s.data.toList.take k))) (fun _ i => s.size - (intOf i).toNat)
    case atStart => exact ⟨0, by omega, rfl, rfl⟩
    case round =>
      obtain ⟨k, hk, rfl, rfl⟩ := hrel
      by_cases hlt : k < s.size
      · have hn : num (s.data.toList.take k) < 72057594037927936 := by
          have h1 := num_lt (s.data.toList.take k)
          have h2 : (s.data.toList.take k).length ≤ 7 := by simp; omega
          have h3 := Nat.pow_le_pow_right (n := 256) (by omega) h2
          omega
        have hc := s[k].toNat_lt
        have hor := or_byte (num (s.data.toList.take k)) s[k].toNat hn hc
        have hsn : num (s.data.toList.take (k + 1)) = num (s.data.toList.take k) * 256 + s[k].toNat := by rw [take_snoc s k hlt, num_snoc]
        have Hsn := hid hsn; clear hsn
        generalize num (s.data.toList.take k) = x at *
        go_wp2
        go_round
        case rel => exact ⟨k + 1, by omega, by go_num, by rw [Hsn.out]; go_num⟩
        case measure => simp [intOf]; omega
      · obtain rfl : k = s.size := by omega
        rw [List.take_of_length_le (by simp)]
        go_wp2
        go_ret2
        exact ⟨rfl, rfl⟩
  · rw [if_neg h8]
    go_enter Tryz.func114, Tryz.ntmps114
    go_wp2
    go_ret2
    exact ⟨rfl, rfl⟩
theorem unnumber_any (s : ByteArray) (w : World) (hs : s.size ≤ 1000000):
    Calls Tryz.prog 46 #[.string s] w fun e w' => e = .returned (.tuple (if s.size ≤ 8 then #[.int .u64 (num s.data.toList), .int .i64 0] else #[.int .u64 0, .int .i64 4])) ∧ Below w.heap.size w w' := by
  by_cases h8 : s.size ≤ 8
  · rw [if_pos h8]
    obtain ⟨c, w2, hrun, hcap, hcell, hb2, hsz, hfz⟩ := conv_sb (P := Tryz.prog) 9 187 5 Tryz.underlying9 Tryz.underlying187 Tryz.underlying5 s w
    have Hcell := hid hcell; clear hcell hfz hsz
    go_enter Tryz.func46, Tryz.ntmps46
    go_wp2
    clear hrun
    go_loop [4, 13] (fun n i => ∃ k : Nat, k ≤ s.size ∧ i = .int .i64 k ∧ n = .int .u64 (num (s.data.toList.take k))) (fun _ i => s.size - (intOf i).toNat)
    case atStart => exact ⟨0, by omega, rfl, rfl⟩
    case round =>
      obtain ⟨k, hk, rfl, rfl⟩ := hrel
      by_cases hlt : k < s.size
      · have hn : num (s.data.toList.take k) < 72057594037927936 := by
          have h1 := num_lt (s.data.toList.take k)
          have h2 : (s.data.toList.take k).length ≤ 7 := by simp; omega
          have h3 := Nat.pow_le_pow_right (n := 256) (by omega) h2
          omega
        have hc := s[k].toNat_lt
        have hcell := Hcell.out k hlt
        have hsn : num (s.data.toList.take (k + 1)) = num (s.data.toList.take k) * 256 + s[k].toNat := by rw [take_snoc s k hlt, num_snoc]
        have Hsn := hid hsn; clear hsn
        generalize num (s.data.toList.take k) = x at *
        go_wp2
        go_round
        case rel => exact ⟨k + 1, by omega, by go_num, by rw [Hsn.out]; go_num⟩
        case measure => simp [intOf]; omega
      · obtain rfl : k = s.size := by omega
        rw [List.take_of_length_le (by simp)]
        go_wp2
        go_ret2
        exact ⟨rfl, hb2⟩
  · rw [if_neg h8]
    go_enter Tryz.func46, Tryz.ntmps46
    go_wp2
    go_ret2
    exact ⟨rfl, Below.refl _ _⟩
end Go.Proofs.YtfeenkofnbefaaaGreatDoor
