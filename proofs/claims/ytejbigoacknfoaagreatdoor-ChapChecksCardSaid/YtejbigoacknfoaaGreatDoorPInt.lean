/- A number out of few good digits: strconv.ParseInt of base 2 and 16. -/
import Derived.Test.YtejbigoacknfoaaGreatDoorPUint
set_option linter.unusedSectionVars false
set_option linter.unusedSimpArgs false
set_option linter.unusedVariables false
namespace Go.Proofs.YtejbigoacknfoaaGreatDoor
open Go Go.RowKit
set_option linter.unusedVariables false
set_option linter.unusedSectionVars false
set_option linter.unusedSimpArgs false
set_option maxRecDepth 100000
def valD (b : Nat) (l : List UInt8) : Nat := l.foldl (fun n c => n * b + digV c) 0
theorem valD_step (b : Nat) (l : List UInt8) (k : Nat) (c : UInt8) (h : l[k]? = some c) : valD b (l.take (k + 1)) = valD b (l.take k) * b + digV c := by
  obtain ⟨h1, h2⟩ := List.getElem?_eq_some_iff.1 h
  rw [List.take_succ_eq_append_getElem h1, h2]
  simp [valD]
theorem valD_lt (b : Nat) (hb : 0 < b) (l : List UInt8) (h : ∀ c ∈ l, digV c < b) : ∀ k, k ≤ l.length → valD b (l.take k) < b ^ k := by
  intro k
  induction k with
  | zero => intro _; simp [valD]
  | succ k ih =>
    intro hk
    have h1 := ih (by omega)
    have hc : l[k]? = some l[k] := List.getElem?_eq_getElem (by omega)
    rw [valD_step b l k _ hc, Nat.pow_succ]
    have h2 := h l[k] (List.getElem_mem _)
    have h3 : valD b (l.take k) + 1 ≤ b ^ k := h1
    have h4 := Nat.mul_le_mul_right b h3
    rw [Nat.add_mul] at h4
    omega
def PiR (b : Nat) (l : List UInt8) (W1 : World) (vu vn vi : Value) (wr : World) : Prop :=
  ∃ (k : Nat) (a : Int), vu = .bool false ∧ vn = .int .u64 a ∧ vi = .int .i64 (k : Nat) ∧ k ≤ l.length ∧ wr = W1 ∧ a = (valD b (l.take k) : Nat)
set_option maxHeartbeats 8000000 in
theorem pu_2_64 (l : List UInt8) (w : World) (hl : l.length ≤ 8) (h0 : 0 < l.length) (hd : ∀ c ∈ l, digV c < 2) :
    Calls Tryz.prog 150 #[.string (bs l), .int .i64 2, .int .i64 64] w fun e w' => e = .returned (.tuple #[.int .u64 (valD 2 l : Nat), .nilIface]) ∧ Below w.heap.size w w' := by
  have hemp' : l.isEmpty = false := by
    cases l with
    | nil => simp at h0
    | cons a l => rfl
  have cv := fun w => conv_sb (P := Tryz.prog) 9 120 5 Tryz.underlying9 Tryz.underlying120 Tryz.underlying5 (bs l) w
  obtain ⟨cp, W1, hcv, hcp, hcell, hbw, hsz1, _⟩ := cv w
  rw [bs_size] at hcv
  clear cv
  have hB : ∀ (j : Nat) (c : UInt8), l[j]? = some c → W1.cell? ⟨w.heap.size, j, none⟩ = some (.int .u8 c.toNat) := fun j c hj => by
    obtain ⟨h1, h2⟩ := List.getElem?_eq_some_iff.1 hj
    subst h2
    exact (hcell j (by rw [bs_size]; exact h1)).trans rfl
  have HBW := hid hbw; have HB := hid hB; clear hbw hB hcell
  have HVL := hid (valD_lt 2 (by omega) l hd); have HD := hid hd
  clear hd
  have w64 : IntKind.u64.wrap 18446744073709551616 = 0 := by decide
  have wm1 : IntKind.u64.wrap (0 - 1) = 18446744073709551615 := by decide
  have wm2 : IntKind.u64.wrap (-1) = 18446744073709551615 := by decide
  have wm3 : IntKind.u64.wrap (IntKind.u64.wrap 18446744073709551616 - 1) = 18446744073709551615 := by decide
  go_enter Tryz.func150, Tryz.ntmps150
  go_wp2
  go_loopw [12, 13, 101] (fun vu vn vi wr => PiR 2 l W1 vu vn vi wr) (fun _ _ vi _ => l.length - (intOf vi).toNat)
  case atStart => exact ⟨0, 0, rfl, rfl, rfl, by omega, rfl, rfl⟩
  case round =>
    obtain ⟨k, a, rfl, rfl, rfl, hk, rfl, ha⟩ := hrel
    by_cases hkn : k < l.length
    · obtain ⟨c, hc⟩ : ∃ c, l[k]? = some c := ⟨l[k], List.getElem?_eq_getElem hkn⟩
      have hcell := HB.out k c hc
      have hst := valD_step 2 l k c hc
      have hv1 := HVL.out k hk
      have hp1 := Nat.pow_le_pow_right (n := 2) (by omega) (show k ≤ 8 by omega)
      have hv2 : valD 2 (l.take k) ≤ 4294967296 := by
        have : (2 : Nat) ^ 8 ≤ 4294967296 := by decide
        omega
      have hdc := HD.out c (List.mem_of_getElem? hc)
      have hc256 : c.toNat < 256 := c.toNat_lt
      have HST := hid hst
      clear hst hc hp1 hv1
      generalize valD 2 (l.take k) = n at *
      have a0 : 0 ≤ a := by omega
      have a1 : a ≤ 4294967296 := by omega
      have HA := hid ha
      clear ha hv2
      have h95' : ((c.toNat : Int) == 95) = false := by
        rw [beq_eq_false_iff_ne]
        intro e
        have : c = 95 := UInt8.toNat_inj.1 (by show c.toNat = 95; omega)
        subst this
        revert hdc; decide
      by_cases hdig : 48 ≤ c.toNat ∧ c.toNat ≤ 57
      · obtain ⟨hd0, hd1⟩ := hdig
        have hdv : digV c = c.toNat - 48 := by unfold digV; rw [if_pos ⟨hd0, hd1⟩]
        rw [hdv] at HST hdc
        have HN := hid (show PiR 2 l wr (.bool false) (.int .u64 (a * 2 + ((c.toNat : Int) - 48))) (.int .i64 ((k : Int) + 1)) wr from ⟨k + 1, _, rfl, rfl, by go_num, by omega, rfl, by have := HA.out; rw [HST.out]; omega⟩)
        have hdci : (c.toNat : Int) < 50 := by omega
        clear hdv HB HVL HD
        go_wp2
        go_roundw
        case rel =>
          exact HN.out
        case measure => simp [intOf]; omega
      · exfalso
        have hdg : digV c = if 97 ≤ lowV c ∧ lowV c ≤ 122 then lowV c - 87 else 255 := by unfold digV; rw [if_neg hdig]
        rw [hdg] at hdc
        split at hdc <;> omega
    · obtain rfl : k = l.length := by omega
      have hv := HVL.out l.length (Nat.le_refl _)
      rw [List.take_length] at hv ha
      have HA := hid ha
      clear HB HVL HD ha
      go_wp2
      go_ret2
      rw [← HA.out]
      exact ⟨rfl, HBW.out⟩
set_option maxHeartbeats 8000000 in
theorem pu_16_64 (l : List UInt8) (w : World) (hl : l.length ≤ 8) (h0 : 0 < l.length) (hd : ∀ c ∈ l, digV c < 16) :
    Calls Tryz.prog 150 #[.string (bs l), .int .i64 16, .int .i64 64] w fun e w' => e = .returned (.tuple #[.int .u64 (valD 16 l : Nat), .nilIface]) ∧ Below w.heap.size w w' := by
  have hemp' : l.isEmpty = false := by
    cases l with
    | nil => simp at h0
    | cons a l => rfl
  have cv := fun w => conv_sb (P := Tryz.prog) 9 120 5 Tryz.underlying9 Tryz.underlying120 Tryz.underlying5 (bs l) w
  obtain ⟨cp, W1, hcv, hcp, hcell, hbw, hsz1, _⟩ := cv w
  rw [bs_size] at hcv
  clear cv
  have hB : ∀ (j : Nat) (c : UInt8), l[j]? = some c → W1.cell? ⟨w.heap.size, j, none⟩ = some (.int .u8 c.toNat) := fun j c hj => by
    obtain ⟨h1, h2⟩ := List.getElem?_eq_some_iff.1 hj
    subst h2
    exact (hcell j (by rw [bs_size]; exact h1)).trans rfl
  have HBW := hid hbw; have HB := hid hB; clear hbw hB hcell
  have HVL := hid (valD_lt 16 (by omega) l hd); have HD := hid hd
  clear hd
  have w64 : IntKind.u64.wrap 18446744073709551616 = 0 := by decide
  have wm1 : IntKind.u64.wrap (0 - 1) = 18446744073709551615 := by decide
  have wm2 : IntKind.u64.wrap (-1) = 18446744073709551615 := by decide
  have wm3 : IntKind.u64.wrap (IntKind.u64.wrap 18446744073709551616 - 1) = 18446744073709551615 := by decide
  go_enter Tryz.func150, Tryz.ntmps150
  go_wp2
  go_loopw [12, 13, 101] (fun vu vn vi wr => PiR 16 l W1 vu vn vi wr) (fun _ _ vi _ => l.length - (intOf vi).toNat)
  case atStart => exact ⟨0, 0, rfl, rfl, rfl, by omega, rfl, rfl⟩
  case round =>
    obtain ⟨k, a, rfl, rfl, rfl, hk, rfl, ha⟩ := hrel
    by_cases hkn : k < l.length
    · obtain ⟨c, hc⟩ : ∃ c, l[k]? = some c := ⟨l[k], List.getElem?_eq_getElem hkn⟩
      have hcell := HB.out k c hc
      have hst := valD_step 16 l k c hc
      have hv1 := HVL.out k hk
      have hp1 := Nat.pow_le_pow_right (n := 16) (by omega) (show k ≤ 8 by omega)
      have hv2 : valD 16 (l.take k) ≤ 4294967296 := by
        have : (16 : Nat) ^ 8 ≤ 4294967296 := by decide
        omega
      have hdc := HD.out c (List.mem_of_getElem? hc)
      have hc256 : c.toNat < 256 := c.toNat_lt
      have HST := hid hst
      clear hst hc hp1 hv1
      generalize valD 16 (l.take k) = n at *
      have a0 : 0 ≤ a := by omega
      have a1 : a ≤ 4294967296 := by omega
      have HA := hid ha
      clear ha hv2
      have h95' : ((c.toNat : Int) == 95) = false := by
        rw [beq_eq_false_iff_ne]
        intro e
        have : c = 95 := UInt8.toNat_inj.1 (by show c.toNat = 95; omega)
        subst this
        revert hdc; decide
      by_cases hdig : 48 ≤ c.toNat ∧ c.toNat ≤ 57
      · obtain ⟨hd0, hd1⟩ := hdig
        have hdv : digV c = c.toNat - 48 := by unfold digV; rw [if_pos ⟨hd0, hd1⟩]
        rw [hdv] at HST hdc
        have HN := hid (show PiR 16 l wr (.bool false) (.int .u64 (a * 16 + ((c.toNat : Int) - 48))) (.int .i64 ((k : Int) + 1)) wr from ⟨k + 1, _, rfl, rfl, by go_num, by omega, rfl, by have := HA.out; rw [HST.out]; omega⟩)
        have hdci : (c.toNat : Int) < 58 := by omega
        clear hdv HB HVL HD
        go_wp2
        go_roundw
        case rel =>
          exact HN.out
        case measure => simp [intOf]; omega
      · have hdg : digV c = if 97 ≤ lowV c ∧ lowV c ≤ 122 then lowV c - 87 else 255 := by unfold digV; rw [if_neg hdig]
        have clow := fun w => hid (lower_any c w)
        have hw256 := low_lt c
        obtain ⟨b, hb⟩ : ∃ b, lowV c = b := ⟨_, rfl⟩
        rw [hb] at hdg hw256 clow
        have hdig' : (c.toNat : Int) < 48 ∨ 57 < (c.toNat : Int) := by omega
        clear hb
        by_cases hlet : 97 ≤ b ∧ b ≤ 122
        · obtain ⟨hl0, hl1⟩ := hlet
          rw [if_pos ⟨hl0, hl1⟩] at hdg
          rw [hdg] at HST hdc
          have HN := hid (show PiR 16 l wr (.bool false) (.int .u64 (a * 16 + ((b : Int) - 97 + 10))) (.int .i64 ((k : Int) + 1)) wr from ⟨k + 1, _, rfl, rfl, by go_num, by omega, rfl, by have := HA.out; rw [HST.out]; omega⟩)
          clear hdg HB HVL HD
          rcases hdig' with hdig' | hdig'
          all_goals
            go_wp2_with (go_at_call 193; refine (clow _).out.mono ?_; rintro e w' ⟨rfl, rfl⟩)
            go_roundw
            case rel =>
              exact HN.out
            case measure => simp [intOf]; omega
        · rw [if_neg hlet] at hdg
          omega
    · obtain rfl : k = l.length := by omega
      have hv := HVL.out l.length (Nat.le_refl _)
      rw [List.take_length] at hv ha
      have HA := hid ha
      clear HB HVL HD ha
      go_wp2
      go_ret2
      rw [← HA.out]
      exact ⟨rfl, HBW.out⟩
theorem pint_2 (l : List UInt8) (w : World) (hl : l.length ≤ 8) (h0 : 0 < l.length) (hd : ∀ c ∈ l, digV c < 2) :
    Calls Tryz.prog 57 #[.string (bs l), .int .i64 2, .int .i64 64] w fun e w' => e = .returned (.tuple #[.int .i64 (valD 2 l : Nat), .nilIface]) ∧ Below w.heap.size w w' := by
  have c1 := hid (pu_2_64 l w hl h0 hd)
  have hv := valD_lt 2 (by omega) l hd l.length (Nat.le_refl _)
  have hp1 := Nat.pow_le_pow_right (n := 2) (by omega) hl
  have hv2 : valD 2 l ≤ 4294967296 := by
    have : (2 : Nat) ^ 8 ≤ 4294967296 := by decide
    rw [List.take_length] at hv
    omega
  have hemp' : l.isEmpty = false := by
    cases l with
    | nil => simp at h0
    | cons a l => rfl
  obtain ⟨c, hc⟩ : ∃ c, l[0]'h0 = c := ⟨_, rfl⟩
  have hdc := hd c (by rw [← hc]; exact List.getElem_mem _)
  have h43 : ((c.toNat : Int) == 43) = false := by
    rw [beq_eq_false_iff_ne]
    intro e
    have : c = 43 := UInt8.toNat_inj.1 (by show c.toNat = 43; omega)
    subst this
    revert hdc; decide
  have h45 : ((c.toNat : Int) == 45) = false := by
    rw [beq_eq_false_iff_ne]
    intro e
    have : c = 45 := UInt8.toNat_inj.1 (by show c.toNat = 45; omega)
    subst this
    revert hdc; decide
  have hl0 : (0 : Int) < (l.length : Int) := by omega
  clear hv hp1 hd hdc
  obtain ⟨V, hV⟩ : ∃ V : Int, ((valD 2 l : Nat) : Int) = V := ⟨_, rfl⟩
  rw [hV] at c1 ⊢
  have V0 : 0 ≤ V := by omega
  have V1 : V ≤ 4294967296 := by omega
  clear hV hv2
  have hvw : IntKind.i64.wrap V = V := by rw [IntKind.wrap_i64]; omega
  have c2 := hid (show Calls Tryz.prog 109 #[.string (bs l), .int .i64 2, .int .i64 64] w fun e w' => e = .returned (.tuple #[.int .i64 V, .nilIface]) ∧ Below w.heap.size w w' by
    go_enter Tryz.func109, Tryz.ntmps109
    go_wp2_with fail
    refine c1.out.mono ?_
    rintro e w1 ⟨rfl, hb1⟩
    go_wp2
    go_ret2
    exact ⟨rfl, hb1⟩)
  clear c1
  go_enter Tryz.func57, Tryz.ntmps57
  go_wp2_with fail
  refine c2.out.mono ?_
  rintro e w1 ⟨rfl, hb1⟩
  go_wp2
  go_ret2
  exact ⟨rfl, hb1⟩
theorem pint_16 (l : List UInt8) (w : World) (hl : l.length ≤ 8) (h0 : 0 < l.length) (hd : ∀ c ∈ l, digV c < 16) :
    Calls Tryz.prog 57 #[.string (bs l), .int .i64 16, .int .i64 64] w fun e w' => e = .returned (.tuple #[.int .i64 (valD 16 l : Nat), .nilIface]) ∧ Below w.heap.size w w' := by
  have c1 := hid (pu_16_64 l w hl h0 hd)
  have hv := valD_lt 16 (by omega) l hd l.length (Nat.le_refl _)
  have hp1 := Nat.pow_le_pow_right (n := 16) (by omega) hl
  have hv2 : valD 16 l ≤ 4294967296 := by
    have : (16 : Nat) ^ 8 ≤ 4294967296 := by decide
    rw [List.take_length] at hv
    omega
  have hemp' : l.isEmpty = false := by
    cases l with
    | nil => simp at h0
    | cons a l => rfl
  obtain ⟨c, hc⟩ : ∃ c, l[0]'h0 = c := ⟨_, rfl⟩
  have hdc := hd c (by rw [← hc]; exact List.getElem_mem _)
  have h43 : ((c.toNat : Int) == 43) = false := by
    rw [beq_eq_false_iff_ne]
    intro e
    have : c = 43 := UInt8.toNat_inj.1 (by show c.toNat = 43; omega)
    subst this
    revert hdc; decide
  have h45 : ((c.toNat : Int) == 45) = false := by
    rw [beq_eq_false_iff_ne]
    intro e
    have : c = 45 := UInt8.toNat_inj.1 (by show c.toNat = 45; omega)
    subst this
    revert hdc; decide
  have hl0 : (0 : Int) < (l.length : Int) := by omega
  clear hv hp1 hd hdc
  obtain ⟨V, hV⟩ : ∃ V : Int, ((valD 16 l : Nat) : Int) = V := ⟨_, rfl⟩
  rw [hV] at c1 ⊢
  have V0 : 0 ≤ V := by omega
  have V1 : V ≤ 4294967296 := by omega
  clear hV hv2
  have hvw : IntKind.i64.wrap V = V := by rw [IntKind.wrap_i64]; omega
  have c2 := hid (show Calls Tryz.prog 109 #[.string (bs l), .int .i64 16, .int .i64 64] w fun e w' => e = .returned (.tuple #[.int .i64 V, .nilIface]) ∧ Below w.heap.size w w' by
    go_enter Tryz.func109, Tryz.ntmps109
    go_wp2_with fail
    refine c1.out.mono ?_
    rintro e w1 ⟨rfl, hb1⟩
    go_wp2
    go_ret2
    exact ⟨rfl, hb1⟩)
  clear c1
  go_enter Tryz.func57, Tryz.ntmps57
  go_wp2_with fail
  refine c2.out.mono ?_
  rintro e w1 ⟨rfl, hb1⟩
  go_wp2
  go_ret2
  exact ⟨rfl, hb1⟩
end Go.Proofs.YtejbigoacknfoaaGreatDoor
