/- A number's digits of base 2 and 16: strconv.FormatInt. -/
import Derived.Test.YtejbigoacknfoaaGreatDoorProg
import Derived.Test.YtejbigoacknfoaaGreatDoorBase
import Derived.Test.YtejbigoacknfoaaGreatDoorBlk
set_option linter.unusedSectionVars false
set_option linter.unusedSimpArgs false
set_option linter.unusedVariables false
namespace Go.Proofs.YtejbigoacknfoaaGreatDoor
open Go Go.RowKit
set_option linter.unusedVariables false
set_option linter.unusedSectionVars false
set_option linter.unusedSimpArgs false
set_option maxRecDepth 100000
def dig36 : List UInt8 := [48, 49, 50, 51, 52, 53, 54, 55, 56, 57, 97, 98, 99, 100, 101, 102, 103, 104, 105, 106, 107, 108, 109, 110, 111, 112, 113, 114, 115, 116, 117, 118, 119, 120, 121, 122]
def digU (n : Nat) : UInt8 := dig36.getD n 0
/-- the digits of a number, ahead of others -/
def fmtR (b : Nat) : Nat → Nat → List UInt8 → List UInt8
  | 0, _, acc => acc
  | f + 1, n, acc => if b ≤ n then fmtR b f (n / b) (digU (n % b) :: acc) else digU n :: acc
def fmtP (b n : Nat) : List UInt8 := fmtR b 64 n []
theorem fmtR_step {b f n : Nat} {acc : List UInt8} (h : b ≤ n) : fmtR b (f + 1) n acc = fmtR b f (n / b) (digU (n % b) :: acc) := by rw [fmtR, if_pos h]
theorem fmtR_end {b f n : Nat} {acc : List UInt8} (h : ¬ b ≤ n) : fmtR b (f + 1) n acc = digU n :: acc := by rw [fmtR, if_neg h]
theorem conv_off {P : Program} (w : World) (src dst e : TypeId) (hs : P.underlying src = some (.slice e)) (he : P.underlying e = some (.int .u8)) (hd : P.underlying dst = some .string) (l : List UInt8) (i c g : Nat) (t : TypeId) (fr : Nat × Nat) (hg : w.heap[g]? = some (.cells (bcells l) t fr)) (hi : i ≤ l.length) :
    (convert src dst (.slice (some ⟨g, i, none⟩) (l.length - i) c)).run P w = .ok (.string (bs (l.drop i))) w := by
  have := run_convert_bytes_arg (P := P) w src e hs he g i (l.length - i) c ((l.drop i).map fun b => (b.toNat : Int)) (by simp) (fun j hj => by
    rw [cell_of_row _ _ _ _ _ _ hg, bcells_get l (i + j) (by omega)]
    simp [List.getD, List.getElem?_drop, show i + j < l.length by omega]) dst hd
  rw [this]
  have hm : ∀ l : List UInt8, List.map ((fun n : Int => UInt8.ofNat n.toNat) ∘ fun b : UInt8 => (b.toNat : Int)) l = l := by
    intro l; induction l with
    | nil => rfl
    | cons a l ih => simp [ih]
  simp [strOfNums, bs, hm]
theorem drop_set (l : List UInt8) (i : Nat) (x : UInt8) (h : i < l.length) : (l.set i x).drop i = x :: l.drop (i + 1) := by
  rw [List.drop_eq_getElem_cons (by simpa using h)]
  simp [List.drop_set]
theorem and_1 (m : Nat) (h : m < 256) : bits .and .u64 (m : Int) 1 = ((m % 2 : Nat) : Int) := by
  have : ∀ j : Fin 256, bits .and .u64 (j.val : Int) 1 = ((j.val % 2 : Nat) : Int) := by decide +kernel
  exact this ⟨m, h⟩
theorem and_15 (m : Nat) (h : m < 256) : bits .and .u64 (m : Int) 15 = ((m % 16 : Nat) : Int) := by
  have : ∀ j : Fin 256, bits .and .u64 (j.val : Int) 15 = ((j.val % 16 : Nat) : Int) := by decide +kernel
  exact this ⟨m, h⟩
theorem digU_get (j : Nat) (h : j < dig36.length) : dig36[j] = digU j := by unfold digU; simp [List.getD, h]
/-- between the digits -/
def RFmt (b n0 p : Nat) (w1 : World) (n i : Value) (wr : World) : Prop :=
  ∃ (m k : Nat) (l : List UInt8) (f : Nat), n = .int .u64 (m : Nat) ∧ i = .int .i64 (k : Nat) ∧ k ≤ 65 ∧ l.length = 65 ∧ Blk wr p 349 (bcells l) ∧ fmtP b n0 = fmtR b f m (l.drop k) ∧ m * 2 ^ (65 - k) ≤ n0 ∧ f + (65 - k) = 64 ∧ (k = 65 ∨ 1 ≤ m) ∧ Below p w1 wr
/-- the table of trailing zeros stands: at 2 and at 16 -/
def DT (w : World) : Prop := w.cell? ⟨11, 1, none⟩ = some (.int .u8 1) ∧ w.cell? ⟨11, 15, none⟩ = some (.int .u8 4)
theorem DT.below {w w' : World} (h : DT w) (hb : Below w.heap.size w w') : DT w' :=
  ⟨(hb.cell (p := ⟨11, 1, none⟩) (block_lt_of_cell h.1)).trans h.1, (hb.cell (p := ⟨11, 15, none⟩) (block_lt_of_cell h.2)).trans h.2⟩
theorem tz2 (w : World) (h : DT w) : Calls Tryz.prog 228 #[.int .u64 2] w fun e w' => e = .returned (.int .i64 1) ∧ w = w' := by
  have c := hid (show Calls Tryz.prog 239 #[.int .u64 2] w fun e w' => e = .returned (.int .i64 1) ∧ w = w' by
    have h1 := h.1
    clear h
    have hw1 : IntKind.u64.wrap (-2) = 18446744073709551614 := by decide +kernel
    have hw2 : bits BinOp.and IntKind.u64 2 18446744073709551614 = 2 := by decide +kernel
    have hw3 : IntKind.u64.wrap (2 * 285870213051353865) = 571740426102707730 := by decide +kernel
    have hw4 : (571740426102707730 : Int) / 288230376151711744 = 1 := by decide +kernel
    go_enter Tryz.func239, Tryz.ntmps239
    go_wp2
    go_ret
    exact ⟨rfl, rfl⟩)
  clear h
  go_enter Tryz.func228, Tryz.ntmps228
  go_wp2_with fail
  refine c.out.mono ?_
  rintro e w1 ⟨rfl, rfl⟩
  go_wp2
  go_ret
  exact ⟨rfl, rfl⟩
theorem tz16 (w : World) (h : DT w) : Calls Tryz.prog 228 #[.int .u64 16] w fun e w' => e = .returned (.int .i64 4) ∧ w = w' := by
  have c := hid (show Calls Tryz.prog 239 #[.int .u64 16] w fun e w' => e = .returned (.int .i64 4) ∧ w = w' by
    have h1 := h.2
    clear h
    have hw1 : IntKind.u64.wrap (-16) = 18446744073709551600 := by decide +kernel
    have hw2 : bits BinOp.and IntKind.u64 16 18446744073709551600 = 16 := by decide +kernel
    have hw3 : IntKind.u64.wrap (16 * 285870213051353865) = 4573923408821661840 := by decide +kernel
    have hw4 : (4573923408821661840 : Int) / 288230376151711744 = 15 := by decide +kernel
    go_enter Tryz.func239, Tryz.ntmps239
    go_wp2
    go_ret
    exact ⟨rfl, rfl⟩)
  clear h
  go_enter Tryz.func228, Tryz.ntmps228
  go_wp2_with fail
  refine c.out.mono ?_
  rintro e w1 ⟨rfl, rfl⟩
  go_wp2
  go_ret
  exact ⟨rfl, rfl⟩
theorem pow2_any (b : Nat) (w : World) (hb : b = 2 ∨ b = 16) : Calls Tryz.prog 227 #[.int .i64 (b : Nat)] w fun e w' => e = .returned (.bool true) ∧ w = w' := by
  rcases hb with rfl | rfl
  all_goals
    go_enter Tryz.func227, Tryz.ntmps227
    go_wp2
    go_ret
    exact ⟨rfl, rfl⟩
section
variable (b sh n : Nat) (w : World) (hb : (b = 2 ∧ sh = 1) ∨ (b = 16 ∧ sh = 4)) (hn : n < 256) (hD : DT w)
include hb hn hD
set_option maxHeartbeats 4000000 in
theorem fbits_any : Calls Tryz.prog 200 #[.slice none 0 0, .int .u64 (n : Nat), .int .i64 (b : Nat), .bool false, .bool false] w fun e w' => e = .returned (.tuple #[.slice none 0 0, .string (bs (fmtP b n))]) ∧ Below w.heap.size w w' := by
  have hz : Tryz.zeroCells349 = bcells (List.replicate 65 0) := by kernel_rfl
  have hdl : (⟨#[48, 49, 50, 51, 52, 53, 54, 55, 56, 57, 97, 98, 99, 100, 101, 102, 103, 104, 105, 106, 107, 108, 109, 110, 111, 112, 113, 114, 115, 116, 117, 118, 119, 120, 121, 122]⟩ : ByteArray) = bs dig36 := rfl
  have hdn : dig36.length = 36 := rfl
  have hA := (Below.refl w.heap.size w).alloc (Nat.le_refl _) (.cells (bcells (List.replicate 65 0)) 349)
  have B0 := Blk.new w 349 (bcells (List.replicate 65 0))
  have hD1 := hD.below hA
  have cz2 := hid (tz2 _ hD1)
  have cz16 := hid (tz16 _ hD1)
  have cp := fun w1 => hid (pow2_any b w1 (by omega))
  clear hD hD1
  have HA := hid hA; have HB0 := hid B0; clear hA B0
  rcases hb with ⟨rfl, rfl⟩ | ⟨rfl, rfl⟩
  · go_enter Tryz.func200, Tryz.ntmps200
    go_wp2_with fail
    refine (cp _).out.mono ?_
    rintro e w1 ⟨rfl, rfl⟩
    go_wp2_with fail
    refine cz2.out.mono ?_
    rintro e w1 ⟨rfl, hw1⟩
    rw [← hw1]
    clear hw1 cz2 cz16 cp w1
    obtain ⟨W1, hW1⟩ : ∃ W1, w.alloc (.cells (bcells (List.replicate 65 0)) 349) = W1 := ⟨_, rfl⟩
    obtain ⟨p, hp⟩ : ∃ p, w.heap.size = p := ⟨_, rfl⟩
    have B1 := HB0.out
    have A1 := HA.out
    rw [hW1] at B1 A1
    rw [hp] at B1 A1
    rw [hW1, hp]
    clear HB0 HA
    go_wp2
    go_loopw [1, 13] (fun nv iv wr => RFmt 2 n p W1 nv iv wr) (fun nv _ _ => (intOf nv).toNat)
    case atStart => exact ⟨n, 65, List.replicate 65 0, 64, rfl, rfl, by omega, by simp, B1, by simp [fmtP], by simp, by omega, .inl rfl, Below.refl _ _⟩
    case round =>
      obtain ⟨m, k, l, f, rfl, rfl, hk, hl, hB, hf, hmk, hfk, hk1, hbe⟩ := hrel
      have hkk : 58 ≤ k := by
        rcases hk1 with h | h
        · omega
        · rcases Nat.lt_or_ge k 58 with hlt | hge
          · have h1 := Nat.pow_le_pow_right (n := 2) (by omega) (show 8 ≤ 65 - k by omega)
            have h3 := Nat.mul_le_mul h h1
            omega
          · exact hge
      have hm256 : m < 256 := by
        have := Nat.le_mul_of_pos_right m (Nat.pow_pos (n := 65 - k) (show 0 < 2 by omega))
        omega
      by_cases h2 : 2 ≤ m
      · have hk58 : 58 ≤ k := by
          rcases Nat.lt_or_ge k 58 with hlt | hge
          · have h1 := Nat.pow_le_pow_right (n := 2) (by omega) (show 8 ≤ 65 - k by omega)
            have h3 := Nat.mul_le_mul h2 h1
            omega
          · exact hge
        obtain ⟨q, rfl⟩ : ∃ q, k = q + 1 := ⟨k - 1, by omega⟩
        obtain ⟨f, rfl⟩ : ∃ f', f = f' + 1 := ⟨f - 1, by omega⟩
        have hdec : decide ((2 : Int) ≤ (m : Int)) = true := decide_eq_true (by omega)
        have hand := and_1 m hm256
        have hdi : m % 2 < dig36.length := by rw [hdn]; omega
        have hdg := digU_get (m % 2) hdi
        have hdi2 : m % 2 < 36 := by omega
        have hdi3 : ((m % 2 : Nat) : Int) < 36 := by omega
        have cq := (hB.cell q).trans (bcells_getD l q (by omega))
        have fq := hB.free q
        have hB2 := hB.set q (.int .u8 ((digU (m % 2)).toNat : Int))
        rw [bcells_set] at hB2
        have hstep : fmtP 2 n = fmtR 2 f (m / 2) ((l.set q (digU (m % 2))).drop q) := by
          rw [hf, fmtR_step h2, drop_set l q _ (by omega)]
        have hmk2 : m / 2 * 2 ^ (65 - q) ≤ n := by
          have e : 65 - q = (65 - (q + 1)) + 1 := by omega
          rw [e, Nat.pow_succ]
          have h4 : m / 2 * 2 ≤ m := by omega
          have h5 := Nat.mul_le_mul_right (2 ^ (65 - (q + 1))) h4
          have h6 : m / 2 * (2 ^ (65 - (q + 1)) * 2) = m / 2 * 2 * 2 ^ (65 - (q + 1)) := by rw [Nat.mul_comm (2 ^ (65 - (q + 1))) 2, Nat.mul_assoc]
          rw [h6]
          exact Nat.le_trans h5 hmk
        have hbe2 := below_setc hbe (Nat.le_refl p) q (.int .u8 ((digU (m % 2)).toNat : Int))
        have KEY : RFmt 2 n p W1 (.int .u64 ((m / 2 : Nat) : Int)) (.int .i64 (q : Int)) (wr.setCell ⟨p, q, none⟩ (.int .u8 ((digU (m % 2)).toNat : Int))) := ⟨m / 2, q, l.set q (digU (m % 2)), f, rfl, rfl, by omega, by simpa using hl, hB2, hstep, hmk2, by omega, .inr (by omega), hbe2⟩
        have HKEY := hid KEY
        clear KEY hB2 hstep hmk2 hbe2 hf hmk hB hbe hk1
        go_wp2
        go_roundw
        case rel =>
          rw [show ((m : Int) / 2) = ((m / 2 : Nat) : Int) by omega]
          exact HKEY.out
        case measure => simp [intOf]; omega
      · skip
        obtain ⟨q, rfl⟩ : ∃ q, k = q + 1 := ⟨k - 1, by omega⟩
        obtain ⟨f, rfl⟩ : ∃ f', f = f' + 1 := ⟨f - 1, by omega⟩
        have hdec : decide ((2 : Int) ≤ (m : Int)) = false := decide_eq_false (by omega)
        have hdi : m < dig36.length := by rw [hdn]; omega
        have hdg := digU_get m hdi
        have hdi2 : m < 36 := by omega
        have hdi3 : ((m : Nat) : Int) < 36 := by omega
        have cq := (hB.cell q).trans (bcells_getD l q (by omega))
        have fq := hB.free q
        have hB2 := hB.set q (.int .u8 ((digU m).toNat : Int))
        rw [bcells_set] at hB2
        have hbe2 := below_setc hbe (Nat.le_refl p) q (.int .u8 ((digU m).toNat : Int))
        have cv := conv_off (P := Tryz.prog) (wr.setCell ⟨p, q, none⟩ (.int .u8 ((digU m).toNat : Int))) 120 9 5 Tryz.underlying120 Tryz.underlying5 Tryz.underlying9 (l.set q (digU m)) q (65 - q) p 349 (0, 0) hB2 (by simp; omega)
        have hls : (l.set q (digU m)).length = 65 := by simpa using hl
        rw [hls, drop_set l q _ (by omega)] at cv
        have hres : fmtP 2 n = digU m :: l.drop (q + 1) := by rw [hf, fmtR_end h2]
        have hfin : Below p w (wr.setCell ⟨p, q, none⟩ (.int .u8 ((digU m).toNat : Int))) := A1.trans hbe2
        have hql : (q : Int) ≤ 65 := by omega
        have HRES := hid hres; have HFIN := hid hfin
        clear hres hfin hB2 hbe2 hf hmk hB hbe hls hk1
        go_wp2
        go_ret2
        exact ⟨by rw [HRES.out]; rfl, by rw [hp]; exact HFIN.out⟩
  · go_enter Tryz.func200, Tryz.ntmps200
    go_wp2_with fail
    refine (cp _).out.mono ?_
    rintro e w1 ⟨rfl, rfl⟩
    go_wp2_with fail
    refine cz16.out.mono ?_
    rintro e w1 ⟨rfl, hw1⟩
    rw [← hw1]
    clear hw1 cz2 cz16 cp w1
    obtain ⟨W1, hW1⟩ : ∃ W1, w.alloc (.cells (bcells (List.replicate 65 0)) 349) = W1 := ⟨_, rfl⟩
    obtain ⟨p, hp⟩ : ∃ p, w.heap.size = p := ⟨_, rfl⟩
    have B1 := HB0.out
    have A1 := HA.out
    rw [hW1] at B1 A1
    rw [hp] at B1 A1
    rw [hW1, hp]
    clear HB0 HA
    go_wp2
    go_loopw [1, 13] (fun nv iv wr => RFmt 16 n p W1 nv iv wr) (fun nv _ _ => (intOf nv).toNat)
    case atStart => exact ⟨n, 65, List.replicate 65 0, 64, rfl, rfl, by omega, by simp, B1, by simp [fmtP], by simp, by omega, .inl rfl, Below.refl _ _⟩
    case round =>
      obtain ⟨m, k, l, f, rfl, rfl, hk, hl, hB, hf, hmk, hfk, hk1, hbe⟩ := hrel
      have hkk : 58 ≤ k := by
        rcases hk1 with h | h
        · omega
        · rcases Nat.lt_or_ge k 58 with hlt | hge
          · have h1 := Nat.pow_le_pow_right (n := 2) (by omega) (show 8 ≤ 65 - k by omega)
            have h3 := Nat.mul_le_mul h h1
            omega
          · exact hge
      have hm256 : m < 256 := by
        have := Nat.le_mul_of_pos_right m (Nat.pow_pos (n := 65 - k) (show 0 < 2 by omega))
        omega
      by_cases h2 : 16 ≤ m
      · have hk58 : 58 ≤ k := by
          rcases Nat.lt_or_ge k 58 with hlt | hge
          · have h1 := Nat.pow_le_pow_right (n := 2) (by omega) (show 8 ≤ 65 - k by omega)
            have h3 := Nat.mul_le_mul (show 2 ≤ m by omega) h1
            omega
          · exact hge
        obtain ⟨q, rfl⟩ : ∃ q, k = q + 1 := ⟨k - 1, by omega⟩
        obtain ⟨f, rfl⟩ : ∃ f', f = f' + 1 := ⟨f - 1, by omega⟩
        have hdec : decide ((16 : Int) ≤ (m : Int)) = true := decide_eq_true (by omega)
        have hand := and_15 m hm256
        have hdi : m % 16 < dig36.length := by rw [hdn]; omega
        have hdg := digU_get (m % 16) hdi
        have hdi2 : m % 16 < 36 := by omega
        have hdi3 : ((m % 16 : Nat) : Int) < 36 := by omega
        have cq := (hB.cell q).trans (bcells_getD l q (by omega))
        have fq := hB.free q
        have hB2 := hB.set q (.int .u8 ((digU (m % 16)).toNat : Int))
        rw [bcells_set] at hB2
        have hstep : fmtP 16 n = fmtR 16 f (m / 16) ((l.set q (digU (m % 16))).drop q) := by
          rw [hf, fmtR_step h2, drop_set l q _ (by omega)]
        have hmk2 : m / 16 * 2 ^ (65 - q) ≤ n := by
          have e : 65 - q = (65 - (q + 1)) + 1 := by omega
          rw [e, Nat.pow_succ]
          have h4 : m / 16 * 2 ≤ m := by omega
          have h5 := Nat.mul_le_mul_right (2 ^ (65 - (q + 1))) h4
          have h6 : m / 16 * (2 ^ (65 - (q + 1)) * 2) = m / 16 * 2 * 2 ^ (65 - (q + 1)) := by rw [Nat.mul_comm (2 ^ (65 - (q + 1))) 2, Nat.mul_assoc]
          rw [h6]
          exact Nat.le_trans h5 hmk
        have hbe2 := below_setc hbe (Nat.le_refl p) q (.int .u8 ((digU (m % 16)).toNat : Int))
        have KEY : RFmt 16 n p W1 (.int .u64 ((m / 16 : Nat) : Int)) (.int .i64 (q : Int)) (wr.setCell ⟨p, q, none⟩ (.int .u8 ((digU (m % 16)).toNat : Int))) := ⟨m / 16, q, l.set q (digU (m % 16)), f, rfl, rfl, by omega, by simpa using hl, hB2, hstep, hmk2, by omega, .inr (by omega), hbe2⟩
        have HKEY := hid KEY
        clear KEY hB2 hstep hmk2 hbe2 hf hmk hB hbe hk1
        go_wp2
        go_roundw
        case rel =>
          rw [show ((m : Int) / 16) = ((m / 16 : Nat) : Int) by omega]
          exact HKEY.out
        case measure => simp [intOf]; omega
      · skip
        obtain ⟨q, rfl⟩ : ∃ q, k = q + 1 := ⟨k - 1, by omega⟩
        obtain ⟨f, rfl⟩ : ∃ f', f = f' + 1 := ⟨f - 1, by omega⟩
        have hdec : decide ((16 : Int) ≤ (m : Int)) = false := decide_eq_false (by omega)
        have hdi : m < dig36.length := by rw [hdn]; omega
        have hdg := digU_get m hdi
        have hdi2 : m < 36 := by omega
        have hdi3 : ((m : Nat) : Int) < 36 := by omega
        have cq := (hB.cell q).trans (bcells_getD l q (by omega))
        have fq := hB.free q
        have hB2 := hB.set q (.int .u8 ((digU m).toNat : Int))
        rw [bcells_set] at hB2
        have hbe2 := below_setc hbe (Nat.le_refl p) q (.int .u8 ((digU m).toNat : Int))
        have cv := conv_off (P := Tryz.prog) (wr.setCell ⟨p, q, none⟩ (.int .u8 ((digU m).toNat : Int))) 120 9 5 Tryz.underlying120 Tryz.underlying5 Tryz.underlying9 (l.set q (digU m)) q (65 - q) p 349 (0, 0) hB2 (by simp; omega)
        have hls : (l.set q (digU m)).length = 65 := by simpa using hl
        rw [hls, drop_set l q _ (by omega)] at cv
        have hres : fmtP 16 n = digU m :: l.drop (q + 1) := by rw [hf, fmtR_end h2]
        have hfin : Below p w (wr.setCell ⟨p, q, none⟩ (.int .u8 ((digU m).toNat : Int))) := A1.trans hbe2
        have hql : (q : Int) ≤ 65 := by omega
        have HRES := hid hres; have HFIN := hid hfin
        clear hres hfin hB2 hbe2 hf hmk hB hbe hls hk1
        go_wp2
        go_ret2
        exact ⟨by rw [HRES.out]; rfl, by rw [hp]; exact HFIN.out⟩
end
section
variable (b n : Nat) (w : World) (hb : b = 2 ∨ b = 16) (hn : n < 256) (hD : DT w)
include hb hn hD
theorem fint_any : Calls Tryz.prog 112 #[.int .i64 (n : Nat), .int .i64 (b : Nat)] w fun e w' => e = .returned (.string (bs (fmtP b n))) ∧ Below w.heap.size w w' := by
  have c1 := hid (fbits_any b (if b = 2 then 1 else 4) n w (by rcases hb with rfl | rfl <;> simp) hn hD)
  have hnw : IntKind.u64.wrap (n : Int) = (n : Int) := by rw [IntKind.wrap_u64]; omega
  have hd : decide ((n : Int) < 0) = false := decide_eq_false (by omega)
  have hb10 : ((b : Int) == 10) = false := by rw [beq_eq_false_iff_ne]; omega
  have c2 := hid (show Calls Tryz.prog 156 #[.int .i64 (n : Nat), .int .i64 (b : Nat)] w fun e w' => e = .returned (.string (bs (fmtP b n))) ∧ Below w.heap.size w w' by
    clear hD hb hn
    go_enter Tryz.func156, Tryz.ntmps156
    go_wp2_with fail
    refine c1.out.mono ?_
    rintro e w1 ⟨rfl, hb1⟩
    go_wp2
    go_ret
    exact ⟨rfl, hb1⟩)
  clear hD c1
  go_enter Tryz.func112, Tryz.ntmps112
  go_wp2_with fail
  refine c2.out.mono ?_
  rintro e w1 ⟨rfl, hb1⟩
  go_wp2
  go_ret
  exact ⟨rfl, hb1⟩
end
end Go.Proofs.YtejbigoacknfoaaGreatDoor
