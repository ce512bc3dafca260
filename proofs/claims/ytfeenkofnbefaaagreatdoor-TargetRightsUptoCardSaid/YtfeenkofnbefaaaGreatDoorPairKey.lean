/- What may be a pair's key: the program's word. -/
import Derived.Test.YtfeenkofnbefaaaGreatDoorPairVal
set_option linter.unusedSectionVars false
set_option linter.unusedSimpArgs false
set_option linter.unusedVariables false
namespace Go.Proofs.YtfeenkofnbefaaaGreatDoor
open Go.RowKit
set_option linter.unusedVariables false
set_option maxRecDepth 100000
def great (b : UInt8) : Bool := decide (65 ≤ b.toNat) && decide (b.toNat ≤ 90)
def more (b : UInt8) : Bool := (decide (97 ≤ b.toNat) && decide (b.toNat ≤ 122)) || (decide (48 ≤ b.toNat) && decide (b.toNat ≤ 57)) || decide (0 ≤ Lib.indexByte [46, 45, 43, 64, 95] b)
/-- the byte at place i may stand in a key -/
def kOk (i : Nat) (b : UInt8) : Bool := great b || (decide (0 < i) && more b)
def keyFrom : Nat → List UInt8 → Bool
  | _, [] => true
  | i, b :: l => kOk i b && keyFrom (i + 1) l
def isKey (l : List UInt8) : Bool := keyFrom 0 l && decide (1 ≤ l.length) && decide (l.length ≤ 63)
set_option maxHeartbeats 4000000 in
theorem key_any (l : List UInt8) (w : World) (hl : l.length ≤ 9223372036854775807) :
    Calls Tryz.prog 92 #[.string (bs l)] w fun e w' => e = .returned (.bool (isKey l)) ∧ w' = w := by
  have hs : (⟨#[46, 45, 43, 64, 95]⟩ : ByteArray) = bs [46, 45, 43, 64, 95] := rfl
  go_enter Tryz.func92, Tryz.ntmps92
  go_wp2
  go_loopw [8] (fun i wr => ∃ k : Nat, k ≤ l.length ∧ i = .int .i64 k ∧ keyFrom 0 l = keyFrom k (l.drop k) ∧ wr = w) (fun i _ => l.length - (intOf i).toNat)
  case atStart => exact ⟨0, by omega, rfl, rfl, rfl⟩
  case round =>
    obtain ⟨k, hk, rfl, hall, rfl⟩ := hrel
    by_cases hlt : k < l.length
    · have hx : l[k].toNat < 256 := l[k].toNat_lt
      rw [List.drop_eq_getElem_cons hlt, keyFrom] at hall
      have Hall := hid hall; clear hall
      have hi : (k : Int) < (l.length : Int) := by omega
      have c1 := fun w => hid (sIndexByte_any [46, 45, 43, 64, 95] l[k] w (by simp))
      have gd : great l[k] = (decide (65 ≤ l[k].toNat) && decide (l[k].toNat ≤ 90)) := rfl
      have md : more l[k] = ((decide (97 ≤ l[k].toNat) && decide (l[k].toNat ≤ 122)) || (decide (48 ≤ l[k].toNat) && decide (l[k].toNat ≤ 57)) || decide (0 ≤ Lib.indexByte [46, 45, 43, 64, 95] l[k])) := rfl
      have Gd := hid gd; have Md := hid md; clear gd md
      generalize Lib.indexByte [46, 45, 43, 64, 95] l[k] = ib at *
      by_cases h65 : 65 ≤ l[k].toNat ∧ l[k].toNat ≤ 90
      · have hk1 : kOk k l[k] = true := by rw [kOk, Gd.out]; simp; omega
        rw [hk1] at Hall
        obtain ⟨h65a, h65b⟩ := h65
        go_wp2
        go_roundw
        case rel => exact ⟨k + 1, by omega, by go_num, by rw [Hall.out]; simp, trivial⟩
        case measure => simp [intOf]; omega
      · have hg : great l[k] = false := by rw [Gd.out]; simp; omega
        by_cases h0 : k = 0
        · have hk1 : kOk k l[k] = false := by rw [kOk, hg]; simp [h0]
          rw [hk1] at Hall
          subst h0
          rcases Nat.lt_or_ge (l[0]'hlt).toNat 65 with h | h
          · go_wp2
            go_ret
            exact ⟨by rw [isKey, Hall.out]; simp, rfl⟩
          · have h' : 90 < (l[0]'hlt).toNat := by omega
            have hb : decide (((l[0]'hlt).toNat : Int) ≤ 90) = false := decide_eq_false (by omega)
            have hb2 : ¬ ((l[0]'hlt).toNat : Int) ≤ 90 := by omega
            go_wp2
            go_ret
            exact ⟨by rw [isKey, Hall.out]; simp, rfl⟩
        · have hkI : ((k : Int) == 0) = false := by rw [beq_eq_false_iff_ne]; omega
          have hkO : kOk k l[k] = more l[k] := by rw [kOk, hg]; simp; omega
          rw [hkO] at Hall
          have hgI : (65 : Int) ≤ l[k].toNat → ¬ (l[k].toNat : Int) ≤ 90 := by omega
          by_cases hlow : 97 ≤ l[k].toNat ∧ l[k].toNat ≤ 122
          · have hm : more l[k] = true := by rw [Md.out]; simp; omega
            rw [hm] at Hall
            obtain ⟨u1, u2⟩ := hlow
            have v1 : (65 : Int) ≤ l[k].toNat := by omega
            have v2 : ¬ (l[k].toNat : Int) ≤ 90 := by omega
            go_wp2
            go_roundw
            case rel => exact ⟨k + 1, by omega, by go_num, by rw [Hall.out]; simp, trivial⟩
            case measure => simp [intOf]; omega
          · have hm : more l[k] = ((decide (48 ≤ l[k].toNat) && decide (l[k].toNat ≤ 57)) || decide (0 ≤ ib)) := by
              rw [Md.out]
              have : (decide (97 ≤ l[k].toNat) && decide (l[k].toNat ≤ 122)) = false := by simp; omega
              rw [this]; rfl
            clear Md Gd hgI
            by_cases hdig : 48 ≤ l[k].toNat ∧ l[k].toNat ≤ 57
            · have hm2 : more l[k] = true := by rw [hm]; simp; omega
              rw [hm2] at Hall
              clear hm hm2
              have x1 : ¬ (65 : Int) ≤ l[k].toNat := by omega
              have x2 : (l[k].toNat : Int) ≤ 90 := by omega
              have x3 : ¬ (97 : Int) ≤ l[k].toNat := by omega
              have x4 : (l[k].toNat : Int) ≤ 122 := by omega
              have x5 : (48 : Int) ≤ l[k].toNat := by omega
              have x6 : (l[k].toNat : Int) ≤ 57 := by omega
              clear hlow h65 hdig
              go_wp2
              go_roundw
              case rel => exact ⟨k + 1, by omega, by go_num, by rw [Hall.out]; simp, trivial⟩
              case measure => simp [intOf]; omega
            · have hm2 : more l[k] = decide (0 ≤ ib) := by
                rw [hm]
                have : (decide (48 ≤ l[k].toNat) && decide (l[k].toNat ≤ 57)) = false := by simp; omega
                rw [this]; rfl
              clear hm
              by_cases hib : 0 ≤ ib
              · rw [hm2, decide_eq_true hib] at Hall
                clear hm2
                rcases (show l[k].toNat < 48 ∨ (57 < l[k].toNat ∧ l[k].toNat < 65) ∨ (90 < l[k].toNat ∧ l[k].toNat < 97) ∨ 122 < l[k].toNat by omega) with h | h | h | h
                · have x1 : ¬ (65 : Int) ≤ l[k].toNat := by omega
                  have x2 : (l[k].toNat : Int) ≤ 90 := by omega
                  have x3 : ¬ (97 : Int) ≤ l[k].toNat := by omega
                  have x4 : (l[k].toNat : Int) ≤ 122 := by omega
                  have x5 : ¬ (48 : Int) ≤ l[k].toNat := by omega
                  have x6 : (l[k].toNat : Int) ≤ 57 := by omega
                  clear hlow h65 hdig h
                  go_wp2_with (go_at_call 124; refine (c1 _).out.mono ?_; rintro e w1 ⟨rfl, rfl⟩)
                  go_roundw
                  case rel => exact ⟨k + 1, by omega, by go_num, by rw [Hall.out]; simp, trivial⟩
                  case measure => simp [intOf]; omega
                · have x1 : ¬ (65 : Int) ≤ l[k].toNat := by omega
                  have x2 : (l[k].toNat : Int) ≤ 90 := by omega
                  have x3 : ¬ (97 : Int) ≤ l[k].toNat := by omega
                  have x4 : (l[k].toNat : Int) ≤ 122 := by omega
                  have x5 : (48 : Int) ≤ l[k].toNat := by omega
                  have x6 : ¬ (l[k].toNat : Int) ≤ 57 := by omega
                  clear hlow h65 hdig h
                  go_wp2_with (go_at_call 124; refine (c1 _).out.mono ?_; rintro e w1 ⟨rfl, rfl⟩)
                  go_roundw
                  case rel => exact ⟨k + 1, by omega, by go_num, by rw [Hall.out]; simp, trivial⟩
                  case measure => simp [intOf]; omega
                · have x1 : (65 : Int) ≤ l[k].toNat := by omega
                  have x2 : ¬ (l[k].toNat : Int) ≤ 90 := by omega
                  have x3 : ¬ (97 : Int) ≤ l[k].toNat := by omega
                  have x4 : (l[k].toNat : Int) ≤ 122 := by omega
                  have x5 : (48 : Int) ≤ l[k].toNat := by omega
                  have x6 : ¬ (l[k].toNat : Int) ≤ 57 := by omega
                  clear hlow h65 hdig h
                  go_wp2_with (go_at_call 124; refine (c1 _).out.mono ?_; rintro e w1 ⟨rfl, rfl⟩)
                  go_roundw
                  case rel => exact ⟨k + 1, by omega, by go_num, by rw [Hall.out]; simp, trivial⟩
                  case measure => simp [intOf]; omega
                · have x1 : (65 : Int) ≤ l[k].toNat := by omega
                  have x2 : ¬ (l[k].toNat : Int) ≤ 90 := by omega
                  have x3 : (97 : Int) ≤ l[k].toNat := by omega
                  have x4 : ¬ (l[k].toNat : Int) ≤ 122 := by omega
                  have x5 : (48 : Int) ≤ l[k].toNat := by omega
                  have x6 : ¬ (l[k].toNat : Int) ≤ 57 := by omega
                  clear hlow h65 hdig h
                  go_wp2_with (go_at_call 124; refine (c1 _).out.mono ?_; rintro e w1 ⟨rfl, rfl⟩)
                  go_roundw
                  case rel => exact ⟨k + 1, by omega, by go_num, by rw [Hall.out]; simp, trivial⟩
                  case measure => simp [intOf]; omega
              · have hib' : ib < 0 := by omega
                rw [hm2, decide_eq_false hib] at Hall
                clear hm2
                have hib2 : decide (0 ≤ ib) = false := decide_eq_false hib
                rcases (show l[k].toNat < 48 ∨ (57 < l[k].toNat ∧ l[k].toNat < 65) ∨ (90 < l[k].toNat ∧ l[k].toNat < 97) ∨ 122 < l[k].toNat by omega) with h | h | h | h
                · have x1 : ¬ (65 : Int) ≤ l[k].toNat := by omega
                  have x2 : (l[k].toNat : Int) ≤ 90 := by omega
                  have x3 : ¬ (97 : Int) ≤ l[k].toNat := by omega
                  have x4 : (l[k].toNat : Int) ≤ 122 := by omega
                  have x5 : ¬ (48 : Int) ≤ l[k].toNat := by omega
                  have x6 : (l[k].toNat : Int) ≤ 57 := by omega
                  clear hlow h65 hdig h
                  go_wp2_with (go_at_call 124; refine (c1 _).out.mono ?_; rintro e w1 ⟨rfl, rfl⟩)
                  go_ret
                  exact ⟨by rw [isKey, Hall.out]; simp, rfl⟩
                · have x1 : ¬ (65 : Int) ≤ l[k].toNat := by omega
                  have x2 : (l[k].toNat : Int) ≤ 90 := by omega
                  have x3 : ¬ (97 : Int) ≤ l[k].toNat := by omega
                  have x4 : (l[k].toNat : Int) ≤ 122 := by omega
                  have x5 : (48 : Int) ≤ l[k].toNat := by omega
                  have x6 : ¬ (l[k].toNat : Int) ≤ 57 := by omega
                  clear hlow h65 hdig h
                  go_wp2_with (go_at_call 124; refine (c1 _).out.mono ?_; rintro e w1 ⟨rfl, rfl⟩)
                  go_ret
                  exact ⟨by rw [isKey, Hall.out]; simp, rfl⟩
                · have x1 : (65 : Int) ≤ l[k].toNat := by omega
                  have x2 : ¬ (l[k].toNat : Int) ≤ 90 := by omega
                  have x3 : ¬ (97 : Int) ≤ l[k].toNat := by omega
                  have x4 : (l[k].toNat : Int) ≤ 122 := by omega
                  have x5 : (48 : Int) ≤ l[k].toNat := by omega
                  have x6 : ¬ (l[k].toNat : Int) ≤ 57 := by omega
                  clear hlow h65 hdig h
                  go_wp2_with (go_at_call 124; refine (c1 _).out.mono ?_; rintro e w1 ⟨rfl, rfl⟩)
                  go_ret
                  exact ⟨by rw [isKey, Hall.out]; simp, rfl⟩
                · have x1 : (65 : Int) ≤ l[k].toNat := by omega
                  have x2 : ¬ (l[k].toNat : Int) ≤ 90 := by omega
                  have x3 : (97 : Int) ≤ l[k].toNat := by omega
                  have x4 : ¬ (l[k].toNat : Int) ≤ 122 := by omega
                  have x5 : (48 : Int) ≤ l[k].toNat := by omega
                  have x6 : ¬ (l[k].toNat : Int) ≤ 57 := by omega
                  clear hlow h65 hdig h
                  go_wp2_with (go_at_call 124; refine (c1 _).out.mono ?_; rintro e w1 ⟨rfl, rfl⟩)
                  go_ret
                  exact ⟨by rw [isKey, Hall.out]; simp, rfl⟩
    · obtain rfl : k = l.length := by omega
      rw [List.drop_length] at hall
      have Hall := hid hall; clear hall
      by_cases hn : l = []
      · subst hn
        go_wp2
        go_ret
        exact ⟨rfl, rfl⟩
      · have hp := List.length_pos_iff.2 hn
        have he : l.isEmpty = false := by simpa using hn
        have hk : isKey l = decide (l.length ≤ 63) := by
          rw [isKey, Hall.out, keyFrom]; simp; omega
        have Hk := hid hk; clear hk
        go_wp2
        go_ret
        refine ⟨?_, rfl⟩
        rw [Hk.out]
        simp
        try omega
end Go.Proofs.YtfeenkofnbefaaaGreatDoor
