/- internal/strconv.ParseUint of a base and a size, walked. -/
import Derived.Test.YtbimlijhgeajjaaGreatDoorProg
import Derived.Test.YtbimlijhgeajjaaGreatDoorClone
import Derived.Laws.Closers25
import Derived.Laws.Closers25b
set_option linter.unusedSectionVars false
set_option linter.unusedSimpArgs false
set_option linter.unusedVariables false
namespace Go.Proofs.YtbimlijhgeajjaaGreatDoor
open Go Go.RowKit
set_option linter.unusedVariables false
set_option linter.unusedSectionVars false
set_option linter.unusedSimpArgs false
set_option maxRecDepth 100000
theorem lower_any (c : UInt8) (w : World) : Calls Tryz.prog 205 #[.int .u8 (c.toNat : Int)] w fun e w' => e = .returned (.int .u8 (lowV c : Nat)) ∧ w = w' := by
  have h := low_u8 c
  go_enter Tryz.func205, Tryz.ntmps205
  go_wp2
  go_ret
  exact ⟨rfl, rfl⟩
theorem lower_95 (w : World) : Calls Tryz.prog 205 #[.int .u8 95] w fun e w' => e = .returned (.int .u8 127) ∧ w = w' := lower_any 95 w
def PuPost (R : Nat × Nat) (w : World) (e : Ending) (w' : World) : Prop :=
  e = .returned (.tuple #[.int .u64 (R.1 : Nat), errV 301 R.2]) ∧ Below w.heap.size w w'
/-- the round's state -/
def PuR (base max : Nat) (l : List UInt8) (W1 : World) (vu vn vi : Value) (wr : World) : Prop :=
  ∃ (k n : Nat) (a : Int), vu = .bool false ∧ vn = .int .u64 a ∧ vi = .int .i64 (k : Nat) ∧ k ≤ l.length ∧ wr = W1 ∧ Hid (a = (n : Int) ∧ n ≤ max ∧ puG base max l 0 = puG base max (l.drop k) n)
set_option maxHeartbeats 8000000 in
theorem pu_10_40 (l : List UInt8) (w : World) (hl : l.length ≤ 9223372036854775806) :
    Calls Tryz.prog 184 #[.string (bs l), .int .i64 10, .int .i64 40] w fun e w' => PuPost (puS 10 1099511627775 l) w e w' := by
  unfold PuPost puS
  by_cases hemp : l = []
  · subst hemp
    rw [if_pos rfl]
    go_enter Tryz.func184, Tryz.ntmps184
    go_wp2
    go_ret2
    exact ⟨rfl, Below.refl _ _⟩
  rw [if_neg hemp]
  have hemp' : l.isEmpty = false := by
    cases l with
    | nil => exact absurd rfl hemp
    | cons a l => rfl
  have cv := fun w => conv_sb (P := Tryz.prog) 9 197 5 Tryz.underlying9 Tryz.underlying197 Tryz.underlying5 (bs l) w
  obtain ⟨cp, W1, hcv, hcp, hcell, hbw, hsz1, _⟩ := cv w
  rw [bs_size] at hcv
  clear cv
  have hB : ∀ (j : Nat) (c : UInt8), l[j]? = some c → W1.cell? ⟨w.heap.size, j, none⟩ = some (.int .u8 c.toNat) := fun j c hj => by
    obtain ⟨h1, h2⟩ := List.getElem?_eq_some_iff.1 hj
    subst h2
    exact (hcell j (by rw [bs_size]; exact h1)).trans rfl
  have HBW := hid hbw; have HB := hid hB; clear hbw hB hcell
  have hlen := Nat.pos_of_ne_zero (fun h => hemp (List.length_eq_zero_iff.1 h))
  clear hemp
  go_enter Tryz.func184, Tryz.ntmps184
  go_wp2
  go_loopw [12, 13, 101] (fun vu vn vi wr => PuR 10 1099511627775 l W1 vu vn vi wr) (fun _ _ vi _ => l.length - (intOf vi).toNat)
  case atStart => exact ⟨0, 0, 0, rfl, rfl, rfl, by omega, rfl, hid ⟨rfl, by omega, rfl⟩⟩
  case round =>
    obtain ⟨k, n, a, rfl, rfl, rfl, hk, rfl, hh⟩ := hrel
    obtain ⟨ha, hn, hst⟩ := hh.out
    clear hh
    have a0 : 0 ≤ a := by omega
    have a1 : a ≤ 1099511627775 := by omega
    by_cases hkn : k < l.length
    · obtain ⟨c, hc⟩ : ∃ c, l[k]? = some c := ⟨l[k], List.getElem?_eq_getElem hkn⟩
      have hcell := HB.out k c hc
      rw [puG_step _ _ l k n c hc] at hst
      have hc256 : c.toNat < 256 := c.toNat_lt
      have clow := fun w => hid (lower_any c w)
      by_cases h95 : c.toNat = 95
      · have hdv : digV c = 255 := by rw [show c = 95 from UInt8.toNat_inj.1 h95]; decide
        rw [hdv, if_pos (by omega)] at hst
        have HS := hid hst
        rw [h95] at hcell
        have c95 := fun w => hid (lower_95 w)
        clear hst hn ha HB hc hdv h95 clow hc256
        go_wp2_with (go_at_call 205; refine (c95 _).out.mono ?_; rintro e w' ⟨rfl, rfl⟩)
        go_ret2
        rw [HS.out]
        exact ⟨rfl, HBW.out⟩
      have h95' : ((c.toNat : Int) == 95) = false := by rw [beq_eq_false_iff_ne]; omega
      by_cases hdig : 48 ≤ c.toNat ∧ c.toNat ≤ 57
      · obtain ⟨hd0, hd1⟩ := hdig
        have hdv : digV c = c.toNat - 48 := by unfold digV; rw [if_pos ⟨hd0, hd1⟩]
        rw [hdv, if_neg (by omega)] at hst
        clear hdv clow hc
        by_cases hov : 1099511627775 < n * 10 + (c.toNat - 48)
        · rw [if_pos hov] at hst
          have iov : 1099511627775 < a * 10 + ((c.toNat : Int) - 48) := by omega
          have HS := hid hst
          clear hst hov hn ha HB
          go_wp2
          go_ret2
          rw [HS.out]
          exact ⟨rfl, HBW.out⟩
        · rw [if_neg hov] at hst
          have iov : a * 10 + ((c.toNat : Int) - 48) ≤ 1099511627775 := by omega
          have HN : Hid (a * 10 + ((c.toNat : Int) - 48) = ((n * 10 + (c.toNat - 48) : Nat) : Int) ∧ n * 10 + (c.toNat - 48) ≤ 1099511627775 ∧ puG 10 1099511627775 l 0 = puG 10 1099511627775 (l.drop (k + 1)) (n * 10 + (c.toNat - 48))) := hid ⟨by omega, by omega, hst⟩
          clear hst hov hn ha HB
          go_wp2
          refine ⟨⟨k + 1, n * 10 + (c.toNat - 48), a * 10 + ((c.toNat : Int) - 48), rfl, (by first | rfl | (congr 1; omega)), (by first | rfl | (congr 1; omega)), by omega, rfl, HN⟩, by simp [intOf]; omega⟩
      · have hdg : digV c = if 97 ≤ lowV c ∧ lowV c ≤ 122 then lowV c - 87 else 255 := by unfold digV; rw [if_neg hdig]
        have hw256 := low_lt c
        obtain ⟨b, hb⟩ : ∃ b, lowV c = b := ⟨_, rfl⟩
        rw [hb] at hdg hw256 clow
        have hdig' : (c.toNat : Int) < 48 ∨ 57 < (c.toNat : Int) := by omega
        clear hb
        by_cases hlet : 97 ≤ b ∧ b ≤ 122
        · obtain ⟨hl0, hl1⟩ := hlet
          rw [if_pos ⟨hl0, hl1⟩] at hdg
          rw [hdg] at hst
          clear hdg hc
          rw [if_pos (by omega)] at hst
          have HS := hid hst
          clear hst hn ha HB
          rcases hdig' with hdig' | hdig'
          all_goals
            go_wp2_with (go_at_call 205; refine (clow _).out.mono ?_; rintro e w' ⟨rfl, rfl⟩)
            go_ret2
            rw [HS.out]
            exact ⟨rfl, HBW.out⟩
        · rw [if_neg hlet] at hdg
          rw [hdg, if_pos (by omega)] at hst
          have HS := hid hst
          clear hst hn ha HB hdg hc
          have hlet' : (b : Int) < 97 ∨ 122 < (b : Int) := by omega
          clear hlet
          rcases hdig' with hdig' | hdig' <;> rcases hlet' with hlet' | hlet'
          all_goals
            go_wp2_with (go_at_call 205; refine (clow _).out.mono ?_; rintro e w' ⟨rfl, rfl⟩)
            go_ret2
            rw [HS.out]
            exact ⟨rfl, HBW.out⟩
    · obtain rfl : k = l.length := by omega
      rw [puG_end _ _ _ _ _ (Nat.le_refl _)] at hst
      have HS := hid hst
      subst ha
      clear hst hn HB
      go_wp2
      go_ret2
      rw [HS.out]
      exact ⟨rfl, HBW.out⟩
set_option maxHeartbeats 8000000 in
theorem pu_16_40 (l : List UInt8) (w : World) (hl : l.length ≤ 9223372036854775806) :
    Calls Tryz.prog 184 #[.string (bs l), .int .i64 16, .int .i64 40] w fun e w' => PuPost (puS 16 1099511627775 l) w e w' := by
  unfold PuPost puS
  by_cases hemp : l = []
  · subst hemp
    rw [if_pos rfl]
    go_enter Tryz.func184, Tryz.ntmps184
    go_wp2
    go_ret2
    exact ⟨rfl, Below.refl _ _⟩
  rw [if_neg hemp]
  have hemp' : l.isEmpty = false := by
    cases l with
    | nil => exact absurd rfl hemp
    | cons a l => rfl
  have cv := fun w => conv_sb (P := Tryz.prog) 9 197 5 Tryz.underlying9 Tryz.underlying197 Tryz.underlying5 (bs l) w
  obtain ⟨cp, W1, hcv, hcp, hcell, hbw, hsz1, _⟩ := cv w
  rw [bs_size] at hcv
  clear cv
  have hB : ∀ (j : Nat) (c : UInt8), l[j]? = some c → W1.cell? ⟨w.heap.size, j, none⟩ = some (.int .u8 c.toNat) := fun j c hj => by
    obtain ⟨h1, h2⟩ := List.getElem?_eq_some_iff.1 hj
    subst h2
    exact (hcell j (by rw [bs_size]; exact h1)).trans rfl
  have HBW := hid hbw; have HB := hid hB; clear hbw hB hcell
  have hlen := Nat.pos_of_ne_zero (fun h => hemp (List.length_eq_zero_iff.1 h))
  clear hemp
  go_enter Tryz.func184, Tryz.ntmps184
  go_wp2
  go_loopw [12, 13, 101] (fun vu vn vi wr => PuR 16 1099511627775 l W1 vu vn vi wr) (fun _ _ vi _ => l.length - (intOf vi).toNat)
  case atStart => exact ⟨0, 0, 0, rfl, rfl, rfl, by omega, rfl, hid ⟨rfl, by omega, rfl⟩⟩
  case round =>
    obtain ⟨k, n, a, rfl, rfl, rfl, hk, rfl, hh⟩ := hrel
    obtain ⟨ha, hn, hst⟩ := hh.out
    clear hh
    have a0 : 0 ≤ a := by omega
    have a1 : a ≤ 1099511627775 := by omega
    by_cases hkn : k < l.length
    · obtain ⟨c, hc⟩ : ∃ c, l[k]? = some c := ⟨l[k], List.getElem?_eq_getElem hkn⟩
      have hcell := HB.out k c hc
      rw [puG_step _ _ l k n c hc] at hst
      have hc256 : c.toNat < 256 := c.toNat_lt
      have clow := fun w => hid (lower_any c w)
      by_cases h95 : c.toNat = 95
      · have hdv : digV c = 255 := by rw [show c = 95 from UInt8.toNat_inj.1 h95]; decide
        rw [hdv, if_pos (by omega)] at hst
        have HS := hid hst
        rw [h95] at hcell
        have c95 := fun w => hid (lower_95 w)
        clear hst hn ha HB hc hdv h95 clow hc256
        go_wp2_with (go_at_call 205; refine (c95 _).out.mono ?_; rintro e w' ⟨rfl, rfl⟩)
        go_ret2
        rw [HS.out]
        exact ⟨rfl, HBW.out⟩
      have h95' : ((c.toNat : Int) == 95) = false := by rw [beq_eq_false_iff_ne]; omega
      by_cases hdig : 48 ≤ c.toNat ∧ c.toNat ≤ 57
      · obtain ⟨hd0, hd1⟩ := hdig
        have hdv : digV c = c.toNat - 48 := by unfold digV; rw [if_pos ⟨hd0, hd1⟩]
        rw [hdv, if_neg (by omega)] at hst
        clear hdv clow hc
        by_cases hov : 1099511627775 < n * 16 + (c.toNat - 48)
        · rw [if_pos hov] at hst
          have iov : 1099511627775 < a * 16 + ((c.toNat : Int) - 48) := by omega
          have HS := hid hst
          clear hst hov hn ha HB
          go_wp2
          go_ret2
          rw [HS.out]
          exact ⟨rfl, HBW.out⟩
        · rw [if_neg hov] at hst
          have iov : a * 16 + ((c.toNat : Int) - 48) ≤ 1099511627775 := by omega
          have HN : Hid (a * 16 + ((c.toNat : Int) - 48) = ((n * 16 + (c.toNat - 48) : Nat) : Int) ∧ n * 16 + (c.toNat - 48) ≤ 1099511627775 ∧ puG 16 1099511627775 l 0 = puG 16 1099511627775 (l.drop (k + 1)) (n * 16 + (c.toNat - 48))) := hid ⟨by omega, by omega, hst⟩
          clear hst hov hn ha HB
          go_wp2
          refine ⟨⟨k + 1, n * 16 + (c.toNat - 48), a * 16 + ((c.toNat : Int) - 48), rfl, (by first | rfl | (congr 1; omega)), (by first | rfl | (congr 1; omega)), by omega, rfl, HN⟩, by simp [intOf]; omega⟩
      · have hdg : digV c = if 97 ≤ lowV c ∧ lowV c ≤ 122 then lowV c - 87 else 255 := by unfold digV; rw [if_neg hdig]
        have hw256 := low_lt c
        obtain ⟨b, hb⟩ : ∃ b, lowV c = b := ⟨_, rfl⟩
        rw [hb] at hdg hw256 clow
        have hdig' : (c.toNat : Int) < 48 ∨ 57 < (c.toNat : Int) := by omega
        clear hb
        by_cases hlet : 97 ≤ b ∧ b ≤ 122
        · obtain ⟨hl0, hl1⟩ := hlet
          rw [if_pos ⟨hl0, hl1⟩] at hdg
          rw [hdg] at hst
          clear hdg hc
          by_cases h16 : 16 ≤ b - 87
          · rw [if_pos h16] at hst
            have HS := hid hst
            clear hst hn ha HB
            rcases hdig' with hdig' | hdig'
            all_goals
              go_wp2_with (go_at_call 205; refine (clow _).out.mono ?_; rintro e w' ⟨rfl, rfl⟩)
              go_ret2
              rw [HS.out]
              exact ⟨rfl, HBW.out⟩
          · rw [if_neg h16] at hst
            by_cases hov : 1099511627775 < n * 16 + (b - 87)
            · rw [if_pos hov] at hst
              have iov : 1099511627775 < a * 16 + ((b : Int) - 97 + 10) := by omega
              have HS := hid hst
              clear hst hov hn ha HB
              rcases hdig' with hdig' | hdig'
              all_goals
                go_wp2_with (go_at_call 205; refine (clow _).out.mono ?_; rintro e w' ⟨rfl, rfl⟩)
                go_ret2
                rw [HS.out]
                exact ⟨rfl, HBW.out⟩
            · rw [if_neg hov] at hst
              have iov : a * 16 + ((b : Int) - 97 + 10) ≤ 1099511627775 := by omega
              have HN : Hid (a * 16 + ((b : Int) - 97 + 10) = ((n * 16 + (b - 87) : Nat) : Int) ∧ n * 16 + (b - 87) ≤ 1099511627775 ∧ puG 16 1099511627775 l 0 = puG 16 1099511627775 (l.drop (k + 1)) (n * 16 + (b - 87))) := hid ⟨by omega, by omega, hst⟩
              clear hst hov hn ha HB
              rcases hdig' with hdig' | hdig'
              all_goals
                go_wp2_with (go_at_call 205; refine (clow _).out.mono ?_; rintro e w' ⟨rfl, rfl⟩)
                refine ⟨⟨k + 1, n * 16 + (b - 87), a * 16 + ((b : Int) - 97 + 10), rfl, (by first | rfl | (congr 1; omega)), (by first | rfl | (congr 1; omega)), by omega, rfl, HN⟩, by simp [intOf]; omega⟩
        · rw [if_neg hlet] at hdg
          rw [hdg, if_pos (by omega)] at hst
          have HS := hid hst
          clear hst hn ha HB hdg hc
          have hlet' : (b : Int) < 97 ∨ 122 < (b : Int) := by omega
          clear hlet
          rcases hdig' with hdig' | hdig' <;> rcases hlet' with hlet' | hlet'
          all_goals
            go_wp2_with (go_at_call 205; refine (clow _).out.mono ?_; rintro e w' ⟨rfl, rfl⟩)
            go_ret2
            rw [HS.out]
            exact ⟨rfl, HBW.out⟩
    · obtain rfl : k = l.length := by omega
      rw [puG_end _ _ _ _ _ (Nat.le_refl _)] at hst
      have HS := hid hst
      subst ha
      clear hst hn HB
      go_wp2
      go_ret2
      rw [HS.out]
      exact ⟨rfl, HBW.out⟩
set_option maxHeartbeats 8000000 in
theorem pu_16_32 (l : List UInt8) (w : World) (hl : l.length ≤ 9223372036854775806) :
    Calls Tryz.prog 184 #[.string (bs l), .int .i64 16, .int .i64 32] w fun e w' => PuPost (puS 16 4294967295 l) w e w' := by
  unfold PuPost puS
  by_cases hemp : l = []
  · subst hemp
    rw [if_pos rfl]
    go_enter Tryz.func184, Tryz.ntmps184
    go_wp2
    go_ret2
    exact ⟨rfl, Below.refl _ _⟩
  rw [if_neg hemp]
  have hemp' : l.isEmpty = false := by
    cases l with
    | nil => exact absurd rfl hemp
    | cons a l => rfl
  have cv := fun w => conv_sb (P := Tryz.prog) 9 197 5 Tryz.underlying9 Tryz.underlying197 Tryz.underlying5 (bs l) w
  obtain ⟨cp, W1, hcv, hcp, hcell, hbw, hsz1, _⟩ := cv w
  rw [bs_size] at hcv
  clear cv
  have hB : ∀ (j : Nat) (c : UInt8), l[j]? = some c → W1.cell? ⟨w.heap.size, j, none⟩ = some (.int .u8 c.toNat) := fun j c hj => by
    obtain ⟨h1, h2⟩ := List.getElem?_eq_some_iff.1 hj
    subst h2
    exact (hcell j (by rw [bs_size]; exact h1)).trans rfl
  have HBW := hid hbw; have HB := hid hB; clear hbw hB hcell
  have hlen := Nat.pos_of_ne_zero (fun h => hemp (List.length_eq_zero_iff.1 h))
  clear hemp
  go_enter Tryz.func184, Tryz.ntmps184
  go_wp2
  go_loopw [12, 13, 101] (fun vu vn vi wr => PuR 16 4294967295 l W1 vu vn vi wr) (fun _ _ vi _ => l.length - (intOf vi).toNat)
  case atStart => exact ⟨0, 0, 0, rfl, rfl, rfl, by omega, rfl, hid ⟨rfl, by omega, rfl⟩⟩
  case round =>
    obtain ⟨k, n, a, rfl, rfl, rfl, hk, rfl, hh⟩ := hrel
    obtain ⟨ha, hn, hst⟩ := hh.out
    clear hh
    have a0 : 0 ≤ a := by omega
    have a1 : a ≤ 4294967295 := by omega
    by_cases hkn : k < l.length
    · obtain ⟨c, hc⟩ : ∃ c, l[k]? = some c := ⟨l[k], List.getElem?_eq_getElem hkn⟩
      have hcell := HB.out k c hc
      rw [puG_step _ _ l k n c hc] at hst
      have hc256 : c.toNat < 256 := c.toNat_lt
      have clow := fun w => hid (lower_any c w)
      by_cases h95 : c.toNat = 95
      · have hdv : digV c = 255 := by rw [show c = 95 from UInt8.toNat_inj.1 h95]; decide
        rw [hdv, if_pos (by omega)] at hst
        have HS := hid hst
        rw [h95] at hcell
        have c95 := fun w => hid (lower_95 w)
        clear hst hn ha HB hc hdv h95 clow hc256
        go_wp2_with (go_at_call 205; refine (c95 _).out.mono ?_; rintro e w' ⟨rfl, rfl⟩)
        go_ret2
        rw [HS.out]
        exact ⟨rfl, HBW.out⟩
      have h95' : ((c.toNat : Int) == 95) = false := by rw [beq_eq_false_iff_ne]; omega
      by_cases hdig : 48 ≤ c.toNat ∧ c.toNat ≤ 57
      · obtain ⟨hd0, hd1⟩ := hdig
        have hdv : digV c = c.toNat - 48 := by unfold digV; rw [if_pos ⟨hd0, hd1⟩]
        rw [hdv, if_neg (by omega)] at hst
        clear hdv clow hc
        by_cases hov : 4294967295 < n * 16 + (c.toNat - 48)
        · rw [if_pos hov] at hst
          have iov : 4294967295 < a * 16 + ((c.toNat : Int) - 48) := by omega
          have HS := hid hst
          clear hst hov hn ha HB
          go_wp2
          go_ret2
          rw [HS.out]
          exact ⟨rfl, HBW.out⟩
        · rw [if_neg hov] at hst
          have iov : a * 16 + ((c.toNat : Int) - 48) ≤ 4294967295 := by omega
          have HN : Hid (a * 16 + ((c.toNat : Int) - 48) = ((n * 16 + (c.toNat - 48) : Nat) : Int) ∧ n * 16 + (c.toNat - 48) ≤ 4294967295 ∧ puG 16 4294967295 l 0 = puG 16 4294967295 (l.drop (k + 1)) (n * 16 + (c.toNat - 48))) := hid ⟨by omega, by omega, hst⟩
          clear hst hov hn ha HB
          go_wp2
          refine ⟨⟨k + 1, n * 16 + (c.toNat - 48), a * 16 + ((c.toNat : Int) - 48), rfl, (by first | rfl | (congr 1; omega)), (by first | rfl | (congr 1; omega)), by omega, rfl, HN⟩, by simp [intOf]; omega⟩
      · have hdg : digV c = if 97 ≤ lowV c ∧ lowV c ≤ 122 then lowV c - 87 else 255 := by unfold digV; rw [if_neg hdig]
        have hw256 := low_lt c
        obtain ⟨b, hb⟩ : ∃ b, lowV c = b := ⟨_, rfl⟩
        rw [hb] at hdg hw256 clow
        have hdig' : (c.toNat : Int) < 48 ∨ 57 < (c.toNat : Int) := by omega
        clear hb
        by_cases hlet : 97 ≤ b ∧ b ≤ 122
        · obtain ⟨hl0, hl1⟩ := hlet
          rw [if_pos ⟨hl0, hl1⟩] at hdg
          rw [hdg] at hst
          clear hdg hc
          by_cases h16 : 16 ≤ b - 87
          · rw [if_pos h16] at hst
            have HS := hid hst
            clear hst hn ha HB
            rcases hdig' with hdig' | hdig'
            all_goals
              go_wp2_with (go_at_call 205; refine (clow _).out.mono ?_; rintro e w' ⟨rfl, rfl⟩)
              go_ret2
              rw [HS.out]
              exact ⟨rfl, HBW.out⟩
          · rw [if_neg h16] at hst
            by_cases hov : 4294967295 < n * 16 + (b - 87)
            · rw [if_pos hov] at hst
              have iov : 4294967295 < a * 16 + ((b : Int) - 97 + 10) := by omega
              have HS := hid hst
              clear hst hov hn ha HB
              rcases hdig' with hdig' | hdig'
              all_goals
                go_wp2_with (go_at_call 205; refine (clow _).out.mono ?_; rintro e w' ⟨rfl, rfl⟩)
                go_ret2
                rw [HS.out]
                exact ⟨rfl, HBW.out⟩
            · rw [if_neg hov] at hst
              have iov : a * 16 + ((b : Int) - 97 + 10) ≤ 4294967295 := by omega
              have HN : Hid (a * 16 + ((b : Int) - 97 + 10) = ((n * 16 + (b - 87) : Nat) : Int) ∧ n * 16 + (b - 87) ≤ 4294967295 ∧ puG 16 4294967295 l 0 = puG 16 4294967295 (l.drop (k + 1)) (n * 16 + (b - 87))) := hid ⟨by omega, by omega, hst⟩
              clear hst hov hn ha HB
              rcases hdig' with hdig' | hdig'
              all_goals
                go_wp2_with (go_at_call 205; refine (clow _).out.mono ?_; rintro e w' ⟨rfl, rfl⟩)
                refine ⟨⟨k + 1, n * 16 + (b - 87), a * 16 + ((b : Int) - 97 + 10), rfl, (by first | rfl | (congr 1; omega)), (by first | rfl | (congr 1; omega)), by omega, rfl, HN⟩, by simp [intOf]; omega⟩
        · rw [if_neg hlet] at hdg
          rw [hdg, if_pos (by omega)] at hst
          have HS := hid hst
          clear hst hn ha HB hdg hc
          have hlet' : (b : Int) < 97 ∨ 122 < (b : Int) := by omega
          clear hlet
          rcases hdig' with hdig' | hdig' <;> rcases hlet' with hlet' | hlet'
          all_goals
            go_wp2_with (go_at_call 205; refine (clow _).out.mono ?_; rintro e w' ⟨rfl, rfl⟩)
            go_ret2
            rw [HS.out]
            exact ⟨rfl, HBW.out⟩
    · obtain rfl : k = l.length := by omega
      rw [puG_end _ _ _ _ _ (Nat.le_refl _)] at hst
      have HS := hid hst
      subst ha
      clear hst hn HB
      go_wp2
      go_ret2
      rw [HS.out]
      exact ⟨rfl, HBW.out⟩
end Go.Proofs.YtbimlijhgeajjaaGreatDoor
