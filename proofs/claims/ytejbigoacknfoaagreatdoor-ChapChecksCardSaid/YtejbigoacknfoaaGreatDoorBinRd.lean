/- The bytes that a value is, by the program. -/
import Derived.Test.YtejbigoacknfoaaGreatDoorBinB
import Derived.Test.YtejbigoacknfoaaGreatDoorBinLow
set_option linter.unusedSectionVars false
set_option linter.unusedSimpArgs false
set_option linter.unusedVariables false
namespace Go.Proofs.YtejbigoacknfoaaGreatDoor
open Go Go.RowKit
set_option linter.unusedVariables false
set_option linter.unusedSectionVars false
set_option linter.unusedSimpArgs false
set_option maxRecDepth 100000
theorem byteNe (a b : UInt8) (k : Int) (hk : k = (b.toNat : Int)) (h : a ≠ b) : ((a.toNat : Int) == k) = false := by
  have : a.toNat ≠ b.toNat := fun e => h (UInt8.toNat_inj.1 e)
  simp; omega
theorem byteEq (a b : UInt8) (k : Int) (hk : k = (b.toNat : Int)) (h : a = b) : ((a.toNat : Int) == k) = true := by
  subst h; simp; omega
theorem read_any (s : List UInt8) (w : World) (hl : s.length ≤ 1000) :
    Calls Tryz.prog 11 #[.string (bs s)] w fun e w' => BinPost (binP s) w e w' := by
  by_cases h2 : s.length < 2
  · have HE := hid (show binP s = ([], 3, -1) by unfold binP; rw [if_pos (Or.inl h2)])
    go_enter Tryz.func11, Tryz.ntmps11
    go_wp2
    go_ret2
    rw [HE.out]
    exact ⟨⟨_, rfl, .bare 3 (by omega)⟩, Below.refl _ _⟩
  · have hd : s.length < 2 ↔ False := ⟨h2, False.elim⟩
    obtain ⟨a, hi0⟩ : ∃ a, s[0]? = some a := ⟨s[0]'(by omega), List.getElem?_eq_getElem (by omega)⟩
    obtain ⟨b, hi1⟩ : ∃ b, s[1]? = some b := ⟨s[1]'(by omega), List.getElem?_eq_getElem (by omega)⟩
    obtain ⟨h0l, h0⟩ := List.getElem?_eq_some_iff.1 hi0
    obtain ⟨h1l, h1⟩ := List.getElem?_eq_some_iff.1 hi1
    have HB := hid (show binP s = if a ≠ 48 then ([], 3, -1) else if b = 120 ∨ b = 88 then QBin.unhexP (s.drop 2) else if b = 98 ∨ b = 66 then QBin.unbaseP (s.drop 2) else ([], 3, -1) by
      unfold binP
      rw [show s.getD 0 0 = a by simp [List.getD, hi0], show s.getD 1 0 = b by simp [List.getD, hi1]]
      by_cases ha : a = 48
      · rw [if_neg (show ¬ (s.length < 2 ∨ a ≠ 48) from fun h => h.elim h2 fun h => h ha), if_neg (show ¬ a ≠ 48 from fun h => h ha)]
      · rw [if_pos (show s.length < 2 ∨ a ≠ 48 from Or.inr ha), if_pos (show a ≠ 48 from ha)])
    have cu := fun w => hid (unhex_any s w (by omega) hl)
    have cb := fun w => hid (unbase_any s w (by omega) hl)
    clear hi0 hi1 hd
    generalize s.drop 2 = r at *
    by_cases ha : a = 48
    · have hx0 : ((a.toNat : Int) != 48) = false := by rw [ha]; rfl
      by_cases b120 : b = 120
      · have e120 : ((b.toNat : Int) == 120) = true := by exact byteEq b 120 120 rfl b120
        have HE := hid (show binP s = QBin.unhexP r by rw [HB.out, if_neg (by simp [ha]), if_pos (Or.inl b120)])
        clear HB ha b120
        go_enter Tryz.func11, Tryz.ntmps11
        go_wp2_with fail
        refine (cu _).out.mono ?_
        rintro e w1 ⟨⟨v, rfl, hv⟩, hb⟩
        go_wp2
        go_ret2
        rw [HE.out]
        exact ⟨⟨_, rfl, hv⟩, hb⟩
      · by_cases b88 : b = 88
        · have e120 : ((b.toNat : Int) == 120) = false := by exact byteNe b 120 120 rfl b120
          have e88 : ((b.toNat : Int) == 88) = true := by exact byteEq b 88 88 rfl b88
          have HE := hid (show binP s = QBin.unhexP r by rw [HB.out, if_neg (by simp [ha]), if_pos (Or.inr b88)])
          clear HB ha b120 b88
          go_enter Tryz.func11, Tryz.ntmps11
          go_wp2_with fail
          refine (cu _).out.mono ?_
          rintro e w1 ⟨⟨v, rfl, hv⟩, hb⟩
          go_wp2
          go_ret2
          rw [HE.out]
          exact ⟨⟨_, rfl, hv⟩, hb⟩
        · by_cases b98 : b = 98
          · have e120 : ((b.toNat : Int) == 120) = false := by exact byteNe b 120 120 rfl b120
            have e88 : ((b.toNat : Int) == 88) = false := by exact byteNe b 88 88 rfl b88
            have e98 : ((b.toNat : Int) == 98) = true := by exact byteEq b 98 98 rfl b98
            have HE := hid (show binP s = QBin.unbaseP r by rw [HB.out, if_neg (by simp [ha]), if_neg (by simp [b120, b88]), if_pos (Or.inl b98)])
            clear HB ha b120 b88 b98
            go_enter Tryz.func11, Tryz.ntmps11
            go_wp2_with fail
            refine (cb _).out.mono ?_
            rintro e w1 ⟨⟨v, rfl, hv⟩, hb⟩
            go_wp2
            go_ret2
            rw [HE.out]
            exact ⟨⟨_, rfl, hv⟩, hb⟩
          · by_cases b66 : b = 66
            · have e120 : ((b.toNat : Int) == 120) = false := by exact byteNe b 120 120 rfl b120
              have e88 : ((b.toNat : Int) == 88) = false := by exact byteNe b 88 88 rfl b88
              have e98 : ((b.toNat : Int) == 98) = false := by exact byteNe b 98 98 rfl b98
              have e66 : ((b.toNat : Int) == 66) = true := by exact byteEq b 66 66 rfl b66
              have HE := hid (show binP s = QBin.unbaseP r by rw [HB.out, if_neg (by simp [ha]), if_neg (by simp [b120, b88]), if_pos (Or.inr b66)])
              clear HB ha b120 b88 b98 b66
              go_enter Tryz.func11, Tryz.ntmps11
              go_wp2_with fail
              refine (cb _).out.mono ?_
              rintro e w1 ⟨⟨v, rfl, hv⟩, hb⟩
              go_wp2
              go_ret2
              rw [HE.out]
              exact ⟨⟨_, rfl, hv⟩, hb⟩
            · have e120 : ((b.toNat : Int) == 120) = false := by exact byteNe b 120 120 rfl b120
              have e88 : ((b.toNat : Int) == 88) = false := by exact byteNe b 88 88 rfl b88
              have e98 : ((b.toNat : Int) == 98) = false := by exact byteNe b 98 98 rfl b98
              have e66 : ((b.toNat : Int) == 66) = false := by exact byteNe b 66 66 rfl b66
              have HE := hid (show binP s = ([], 3, -1) by rw [HB.out, if_neg (by simp [ha]), if_neg (by simp [b120, b88]), if_neg (by simp [b98, b66])])
              clear HB ha b120 b88 b98 b66
              go_enter Tryz.func11, Tryz.ntmps11
              go_wp2
              go_ret2
              rw [HE.out]
              exact ⟨⟨_, rfl, .bare 3 (by omega)⟩, Below.refl _ _⟩
    · have hx0 : ((a.toNat : Int) != 48) = true := by
        have := byteNe a 48 48 rfl ha
        simp at this ⊢; omega
      have HE := hid (show binP s = ([], 3, -1) by rw [HB.out, if_pos ha])
      clear HB ha
      go_enter Tryz.func11, Tryz.ntmps11
      go_wp2
      go_ret2
      rw [HE.out]
      exact ⟨⟨_, rfl, .bare 3 (by omega)⟩, Below.refl _ _⟩
end Go.Proofs.YtejbigoacknfoaaGreatDoor
