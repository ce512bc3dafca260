/- CRC-32C: the program's sum and digest, and the document's, each returns the plain arithmetic's answer. -/
import Derived.Test.YtfeenkofnbefaaaGreatDoorProg
import Derived.Test.YtfeenkofnbefaaaGreatDoorBase
import Derived.Test.YtfeenkofnbefaaaGreatDoorCrcPure
set_option linter.unusedSectionVars false
set_option linter.unusedSimpArgs false
set_option linter.unusedVariables false
namespace Go.Proofs.YtfeenkofnbefaaaGreatDoor
open Go.RowKit
set_option linter.unusedVariables false
def tabA (i : Nat) : Array Value := (((List.range i).map fun (k : Nat) => Value.int .u32 (QCrc.iter 8 k)) ++ List.replicate (256 - i) (Value.int .u32 0)).toArray
theorem wp_world {P : Program} {c : Code} {Q : Exit → Act → World → Prop} {a : Act} {w w' : World} (h : w = w') (k : Code.wp P c Q a w') : Code.wp P c Q a w := by rw [h]; exact k
theorem zero256 (w : World) : (zeroValue 277).run Tryz.prog w = .ok (.agg (tabA 0)) w := by kernel_rfl
theorem tabsize (i : Nat) (h : i ≤ 256) : (tabA i).size = 256 := by simp [tabA]; omega
theorem tabget (i : Nat) (h : i < 256) : (tabA i)[i]? = some (Value.int .u32 0) := by
  simp [tabA, List.getElem?_append, List.getElem?_replicate]; omega
theorem tabset (i : Nat) (h : i < 256) : (tabA i).setIfInBounds i (Value.int .u32 (QCrc.iter 8 i)) = tabA (i + 1) := by
  apply Array.ext
  · simp [tabA]; omega
  · intro k h1 h2
    simp [tabA] at h1 h2
    have h3 : k < (tabA i).size := by simp [tabA]; omega
    rw [Array.getElem_setIfInBounds h3]
    simp only [tabA, List.getElem_toArray]
    by_cases hk : i = k
    · subst hk; simp
    · rw [if_neg hk]
      by_cases hlt : k < i
      · simp [hlt, show k < i + 1 by omega]
      · simp [List.getElem_append, hlt, show ¬ k < i + 1 by omega]
theorem tabfull (k : Nat) (h : k < 256) : (tabA 256)[k]? = some (Value.int .u32 (QCrc.iter 8 k)) := by
  simp [tabA, h]
theorem taball : (tabA 256).all (·.oneCell') = true := by
  simp [tabA, Value.oneCell']
theorem step_walk (x : Nat) (h : x < 4294967296) : bits .xor .u32 ((x : Int) / 2) (bits .and .u32 ((-(bits .and .u32 (x : Int) 1)) % 4294967296) 2197175160) = (QCrc.step x : Nat) := by
  have e1 : bits .and .u32 (x : Int) 1 = ((x % 2 : Nat) : Int) := by
    have := u32_and_nat x 1 h (by omega); rw [nat_mask1] at this; exact this
  rw [e1]
  have e3 : ((x : Int) / 2) = ((x / 2 : Nat) : Int) := by omega
  unfold QCrc.step
  rcases Nat.mod_two_eq_zero_or_one x with h0 | h1
  · rw [h0, e3]
    have e2 : bits .and .u32 ((-((0 : Nat) : Int)) % 4294967296) 2197175160 = ((0 : Nat) : Int) := u32_and_nat 0 2197175160 (by omega) (by omega)
    rw [e2, u32_xor_nat _ _ (by omega) (by omega)]; simp
  · rw [h1, e3]
    have e2 : bits .and .u32 ((-((1 : Nat) : Int)) % 4294967296) 2197175160 = ((2197175160 : Nat) : Int) := u32_and_nat 4294967295 2197175160 (by omega) (by omega)
    rw [e2, u32_xor_nat _ _ (by omega) (by omega)]; simp [QCrc.P]
set_option maxRecDepth 100000 in
theorem compl_crc (n : Nat) (h : n < 4294967296) : bits BinOp.xor IntKind.u32 IntKind.u32.max (n : Int) = ((4294967295 - n : Nat) : Int) := by
  have := u32_xor_nat 4294967295 n (by omega) h
  rw [show IntKind.u32.max = ((4294967295 : Nat) : Int) from rfl, this]
  rw [QCrc.compl n h]
theorem xorP (r : Nat) (h : r < 4294967296) : Value.int .u32 (bits BinOp.xor IntKind.u32 ((r : Int) / 2) 2197175160) = Value.int .u32 ((r / 2 ^^^ QCrc.P : Nat) : Int) := by
  have e : ((r : Int) / 2) = ((r / 2 : Nat) : Int) := by omega
  have := u32_xor_nat (r / 2) 2197175160 (by omega) (by omega)
  rw [e]; rw [show (2197175160 : Int) = ((2197175160 : Nat) : Int) from rfl, this]; rfl
set_option maxRecDepth 100000 in
theorem table_any (w : World) :
    Calls Tryz.prog 146 #[] w fun e w' => e = .returned (.agg (tabA 256)) ∧ Below w.heap.size w w' := by
  have hzv := zero256
  go_enter Tryz.func146, Tryz.ntmps146
  go_wp2
  refine wp_world (w' := (w.alloc (.cells (tabA 0) 277)).alloc (.cells (tabA 0) 277)) (by kernel_rfl) ?_
  have hz : (tabA 0).size = (tabA 256).size := by rw [tabsize _ (by omega), tabsize _ (by omega)]
  obtain ⟨z0, hz0⟩ : ∃ z0, z0 = tabA 0 := ⟨_, rfl⟩
  rw [← hz0] at hz ⊢
  have Hz := hid hz0; clear hz0
  have Hzs := hid hz; clear hz
  go_loopw [4] (fun v wr => ∃ i : Nat, i ≤ 256 ∧ v = .int .i64 i ∧ wr = (w.alloc (.cells z0 277)).alloc (.cells (tabA i) 277)) (fun v _ => 256 - (intOf v).toNat)
  case atStart => exact ⟨0, by omega, rfl, by rw [← Hz.out]⟩
  case round =>
    obtain ⟨i, hi, rfl, rfl⟩ := hrel
    by_cases hlt : i < 256
    · have hg := tabget i hlt
      go_wp2
      go_loop [3, 9] (fun x v => ∃ j : Nat, j ≤ 8 ∧ v = .int .i64 j ∧ x = .int .u32 (QCrc.iter j i : Nat)) (fun _ v => 8 - (intOf v).toNat)
      case atStart => exact ⟨0, by omega, rfl, rfl⟩
      case round =>
        obtain ⟨j, hj, rfl, rfl⟩ := hrel
        have hb := QCrc.iter_lt j i (by omega)
        by_cases hlt2 : j < 8
        · have hs := step_walk (QCrc.iter j i) hb
          have Hs := hid hs; clear hs
          generalize hx : QCrc.iter j i = x at *
          go_wp2
          go_round
          case rel => exact ⟨j + 1, by omega, by go_num, by rw [Hs.out, ← hx]; rfl⟩
          case measure => simp [intOf]; omega
        · obtain rfl : j = 8 := by omega
          go_wp2
          go_roundw
          case rel => exact ⟨i + 1, by omega, by go_num, by rw [tabset i hlt]⟩
          case measure => simp [intOf]; omega
    · obtain rfl : i = 256 := by omega
      go_wp2_with first
        | (refine wpList_load_row rfl 277 _ rfl (w.heap.size + 1) rfl 277 (tabA 256) (0, 0) _ (heap_alloc2_new _ _ _) Tryz.underlying277 rfl (by rw [tabsize _ (by omega)]; kernel_rfl) ?_)
        | (refine wpList_store_row rfl 277 _ _ rfl (w.heap.size) (tabA 256) rfl rfl 277 z0 (heap_alloc2_old _ _ _) (by rw [tabsize _ (by omega)]; kernel_rfl) ?_ taball ?_)
      · exact Hzs.out
      · refine bodyPost_ret (results_cell_row rfl _ _ w.heap.size 277 (tabA 256) (0, 0) _ rfl (setRow_heap _ _ _ _ _ _ (heap_alloc2_old _ _ _)) Tryz.underlying277 rfl (by rw [tabsize _ (by omega)]; kernel_rfl)) rfl ⟨rfl, ?_⟩
        exact below_setRow (((Below.refl _ _).alloc (Nat.le_refl _) _).alloc (by simp) _) (Nat.le_refl _) _

set_option maxRecDepth 100000 in
theorem sum_any (s : ByteArray) (w : World) (hs : s.size ≤ maxLen) :
    Calls Tryz.prog 112 #[.string s] w fun e w' => e = .returned (.int .u32 (4294967295 - QCrc.crc s.data.toList 4294967295 : Nat)) ∧ Below w.heap.size w w' := by
  unfold maxLen at hs
  have hzv := zero256
  go_enter Tryz.func112, Tryz.ntmps112
  go_wp2_with first
    | (go_at_call 146; refine (table_any _).mono ?_; rintro e w1 ⟨rfl, hb1⟩)
    | (refine wpList_store_row rfl 277 _ _ rfl w1.heap.size (tabA 256) rfl rfl 277 _ (by exact heap_alloc_new _ _) (by rw [tabsize _ (by omega)]; kernel_rfl) (by rw [tabsize _ (by omega)]; kernel_rfl) taball ?_; rw [World.setRow_alloc_new])
  go_loop [4, 9] (fun n i => ∃ k : Nat, k ≤ s.size ∧ i = .int .i64 k ∧ n = .int .u32 (QCrc.crc (s.data.toList.take k) 4294967295 : Nat)) (fun _ i => s.size - (intOf i).toNat)
  case atStart => exact ⟨0, Nat.zero_le _, rfl, rfl⟩
  case round =>
    obtain ⟨k, hk, rfl, rfl⟩ := hrel
    have hn := QCrc.crc_lt (s.data.toList.take k) 4294967295 (by omega)
    by_cases hlt : k < s.size
    · have hc := s[k].toNat_lt
      have hstep : QCrc.crc (s.data.toList.take (k + 1)) 4294967295 = QCrc.iter 8 ((QCrc.crc (s.data.toList.take k) 4294967295 % 256) ^^^ s[k].toNat) ^^^ (QCrc.crc (s.data.toList.take k) 4294967295 / 256) := by
        rw [take_snoc s k hlt, QCrc.crc_snoc, QCrc.byte_table _ _ (by omega)]
      have Hstep := hid hstep; clear hstep
      generalize QCrc.crc (s.data.toList.take k) 4294967295 = n at *
      have hx : bits .xor .u8 ((n : Int) % 256) (s[k].toNat : Int) = (((n % 256) ^^^ s[k].toNat : Nat) : Int) := by
        have := u8_xor_nat (n % 256) s[k].toNat (by omega) (by omega)
        simpa using this
      have hj : (n % 256) ^^^ s[k].toNat < 256 := Nat.xor_lt_two_pow (n := 8) (by omega) (by omega)
      generalize (n % 256) ^^^ s[k].toNat = j at *
      have ht := tabfull j hj
      have hi := QCrc.iter_lt 8 j (by omega)
      generalize QCrc.iter 8 j = v at *
      have hr : bits .xor .u32 (v : Int) ((n : Int) / 256) = ((v ^^^ (n / 256) : Nat) : Int) := by
        have := u32_xor_nat v (n / 256) hi (by omega)
        simpa using this
      go_wp2
      go_round
      case rel => exact ⟨k + 1, by omega, by go_num, by rw [Hstep.out]⟩
      case measure => simp [intOf]; omega
    · go_wp2
      go_ret
      obtain rfl : k = s.size := by omega
      refine ⟨ret_int ?_, hb1.trans ((Below.refl _ _).alloc hb1.size _)⟩
      rw [List.take_of_length_le (by simp)] at hn ⊢
      exact compl_crc _ hn

theorem rcond (r c j : Nat) (hr : r < 4294967296) (hc : c < 2 ^ 8) : 
   ((r % 2) ^^^ (c / 2 ^ j % 2) = 1 → (bits BinOp.xor IntKind.u32 (bits BinOp.and IntKind.u32 (r : Int) 1) (bits BinOp.and IntKind.u32 ((c : Int) / 2 ^ j % 4294967296) 1) == 1) = true) ∧
   (¬ (r % 2) ^^^ (c / 2 ^ j % 2) = 1 → (bits BinOp.xor IntKind.u32 (bits BinOp.and IntKind.u32 (r : Int) 1) (bits BinOp.and IntKind.u32 ((c : Int) / 2 ^ j % 4294967296) 1) == 1) = false) := by
  have h0 : c / 2 ^ j ≤ c := Nat.div_le_self _ _
  have e1 : bits .and .u32 (r : Int) 1 = ((r % 2 : Nat) : Int) := by
    have := u32_and_nat r 1 hr (by omega); rw [nat_mask1] at this; exact this
  have e2 : ((c : Int) / 2 ^ j % 4294967296) = ((c / 2 ^ j : Nat) : Int) := by
    have : (c : Int) / 2 ^ j = ((c / 2 ^ j : Nat) : Int) := by simp
    have h9 : c / 2 ^ j < 256 := by omega
    rw [this]; generalize c / 2 ^ j = q at *; omega
  have e3 : bits .and .u32 ((c / 2 ^ j : Nat) : Int) 1 = ((c / 2 ^ j % 2 : Nat) : Int) := by
    have := u32_and_nat (c / 2 ^ j) 1 (by omega) (by omega); rw [nat_mask1] at this; exact this
  rw [e1, e2, e3, u32_xor_nat _ _ (by omega) (by omega)]
  constructor
  · intro h; rw [h]; rfl
  · intro h; simp; omega
theorem rsum_any (s : ByteArray) (w : World) (hs : s.size ≤ 1000000) :
    Calls Tryz.prog 109 #[.string s] w fun e w' => e = .returned (.int .u32 (4294967295 - QCrc.crc s.data.toList 4294967295 : Nat)) ∧ w = w' := by
  go_enter Tryz.func109, Tryz.ntmps109
  go_wp2
  go_loop [3, 9] (fun n i => ∃ k : Nat, k ≤ 8 * s.size ∧ i = .int .i64 k ∧ n = .int .u32 (QCrc.rst s.data.toList k : Nat)) (fun _ i => 8 * s.size - (intOf i).toNat)
  case atStart => exact ⟨0, by omega, rfl, rfl⟩
  case round =>
    obtain ⟨k, hk, rfl, rfl⟩ := hrel
    have hr := QCrc.rst_lt s.data.toList k
    by_cases hlt : k < 8 * s.size
    · have hk8 : k / 8 < s.size := by omega
      have hc := s[k / 8].toNat_lt
      have hgd : QCrc.bit s.data.toList k = s[k / 8].toNat / 2 ^ (k % 8) % 2 := by
        rw [QCrc.bit, List.getD, List.getElem?_eq_getElem (by simpa using hk8)]; rfl
      have hcc := rcond (QCrc.rst s.data.toList k) s[k / 8].toNat (k % 8) hr hc
      rw [← hgd] at hcc
      have hs' : QCrc.rst s.data.toList (k + 1) = QCrc.rstep (QCrc.rst s.data.toList k) (QCrc.bit s.data.toList k) := rfl
      unfold QCrc.rstep at hs'
      have Hs := hid hs'; clear hs' hgd
      generalize QCrc.rst s.data.toList k = r at *
      have Hcc := hid hcc; clear hcc
      by_cases hb : (r % 2) ^^^ QCrc.bit s.data.toList k = 1
      · have hcc := Hcc.out.1 hb
        rw [if_pos hb] at Hs
        clear Hcc hb
        go_wp2
        go_round
        case rel => exact ⟨k + 1, by omega, by go_num, by rw [Hs.out]; exact xorP r hr⟩
        case measure => simp [intOf]; omega
      · have hcc := Hcc.out.2 hb
        rw [if_neg hb] at Hs
        clear Hcc hb
        go_wp2
        go_round
        case rel => exact ⟨k + 1, by omega, by go_num, by rw [Hs.out]; simp⟩
        case measure => simp [intOf]; omega
    · obtain rfl : k = 8 * s.size := by omega
      go_wp2
      go_ret
      refine ⟨ret_int ?_, rfl⟩
      rw [show s.size = s.data.toList.length by simp, QCrc.rst_full] at hr ⊢
      exact compl_crc _ hr

def dig (n : Nat) : List UInt8 := [UInt8.ofNat (n % 256), UInt8.ofNat (n / 256 % 256), UInt8.ofNat (n / 65536 % 256), UInt8.ofNat (n / 16777216 % 256)]
def crcS (s : ByteArray) : Nat := 4294967295 - QCrc.crc s.data.toList 4294967295
theorem digB (n : Nat) (h : n < 4294967296) : bs [byteOf ((n : Int) % 256), byteOf ((n : Int) / 256 % 256), byteOf ((n : Int) / 65536 % 256), byteOf ((n : Int) / 16777216)] = bs (dig n) := by
  have e1 : ((n : Int) % 256) = ((n % 256 : Nat) : Int) := by omega
  have e2 : ((n : Int) / 256 % 256) = ((n / 256 % 256 : Nat) : Int) := by omega
  have e3 : ((n : Int) / 65536 % 256) = ((n / 65536 % 256 : Nat) : Int) := by omega
  have e4 : ((n : Int) / 16777216) = ((n / 16777216 % 256 : Nat) : Int) := by omega
  rw [e1, e2, e3, e4]; rfl
theorem dig_any (s : ByteArray) (w : World) (hs : s.size ≤ maxLen) :
    Calls Tryz.prog 81 #[.string s] w fun e w' => e = .returned (.string (bs (dig (crcS s)))) ∧ Below w.heap.size w w' := by
  have hn : crcS s < 4294967296 := by unfold crcS; omega
  have hsum := sum_any s w hs
  have cv := conv4 (P := Tryz.prog) 187 9 5 5 Tryz.underlying187 Tryz.underlying5 Tryz.underlying9
  rw [← crcS] at hsum
  generalize crcS s = n at *
  have Hsum := hid hsum; clear hsum
  go_enter Tryz.func81, Tryz.ntmps81
  go_wp2_with (go_at_call 112; refine Hsum.out.mono ?_; rintro e w1 ⟨rfl, hb1⟩)
  go_ret
  exact ⟨ret_val (congrArg Value.string (digB n hn)), hb1.trans ((Below.refl _ _).alloc hb1.size _)⟩
theorem dig_take (n k : Nat) (h : k < 4) : (dig n).take (k + 1) = (dig n).take k ++ [UInt8.ofNat (n / 256 ^ k % 256)] := by
  match k, h with
  | 0, _ => simp [dig]
  | 1, _ => simp [dig]
  | 2, _ => simp [dig]
  | 3, _ => simp [dig]
theorem rdig_any (s : ByteArray) (w : World) (hs : s.size ≤ 1000000) :
    Calls Tryz.prog 76 #[.string s] w fun e w' => e = .returned (.string (bs (dig (crcS s)))) ∧ Below w.heap.size w w' := by
  have hn : crcS s < 4294967296 := by unfold crcS; omega
  have hsum := rsum_any s w hs
  have cv := conv1 (P := Tryz.prog) 187 9 5 5 Tryz.underlying187 Tryz.underlying5 Tryz.underlying9
  rw [← crcS] at hsum
  generalize crcS s = n at *
  have Hsum := hid hsum; clear hsum
  go_enter Tryz.func76, Tryz.ntmps76
  go_wp2_with (go_at_call 109; refine Hsum.out.mono ?_; rintro e w1 ⟨rfl, rfl⟩)
  go_loopw [3, 4, 7] (fun x o i wr => ∃ k : Nat, k ≤ 4 ∧ i = .int .i64 k ∧ x = .int .u32 (n / 256 ^ k : Nat) ∧ o = .string (bs ((dig n).take k)) ∧ Below w.heap.size w wr) (fun _ _ i _ => 4 - (intOf i).toNat)
  case atStart => exact ⟨0, by omega, rfl, by simp, rfl, Below.refl _ _⟩
  case round =>
    obtain ⟨k, hk, rfl, rfl, rfl, hb⟩ := hrel
    by_cases hlt : k < 4
    · have hl : ((dig n).take k).length ≤ 4 := by rw [List.length_take]; simp [dig]; omega
      have ht := dig_take n k hlt
      have Ht := hid ht; clear ht
      have hx : n / 256 ^ (k + 1) = n / 256 ^ k / 256 := by rw [Nat.pow_succ, Nat.div_div_eq_div_mul]
      have Hx := hid hx; clear hx
      have hxl : n / 256 ^ k ≤ n := Nat.div_le_self _ _
      generalize n / 256 ^ k = x at *
      generalize (dig n).take k = l at *
      go_wp2
      go_roundw
      case rel => exact ⟨k + 1, by omega, by go_num, by rw [Hx.out]; go_num, by rw [Ht.out]; rfl, hb.alloc hb.size _⟩
      case measure => simp [intOf]; omega
    · obtain rfl : k = 4 := by omega
      go_wp2
      go_ret
      exact ⟨rfl, by assumption⟩

end Go.Proofs.YtfeenkofnbefaaaGreatDoor
