/- Bytes in hexadecimal, by the program. -/
import Derived.Test.YtejbigoacknfoaaGreatDoorOwnC
import Derived.Test.YtejbigoacknfoaaGreatDoorBinPure
set_option linter.unusedSectionVars false
set_option linter.unusedSimpArgs false
set_option linter.unusedVariables false
namespace Go.Proofs.YtejbigoacknfoaaGreatDoor
open Go Go.RowKit
set_option linter.unusedVariables false
set_option linter.unusedSectionVars false
set_option linter.unusedSimpArgs false
set_option maxRecDepth 100000
def hexL : List UInt8 := [48, 49, 50, 51, 52, 53, 54, 55, 56, 57, 97, 98, 99, 100, 101, 102]
theorem hexL_get (j : Nat) (h : j < hexL.length) : hexL[j] = digU j := by
  have : ∀ j : Fin 16, hexL[j.val]'j.isLt = digU j.val := by decide
  exact this ⟨j, h⟩
theorem and15_u8 (m : Nat) (h : m < 256) : bits .and .u8 (m : Int) 15 = ((m % 16 : Nat) : Int) := by
  have : ∀ j : Fin 256, bits .and .u8 (j.val : Int) 15 = ((j.val % 16 : Nat) : Int) := by decide +kernel
  exact this ⟨m, h⟩
def RHexP (l : List UInt8) (W : World) (v i : Value) (wr : World) : Prop :=
  ∃ k : Nat, k ≤ l.length ∧ i = .int .i64 (k : Nat) ∧ OwnB wr W.heap.size 5 v (QBin.hexP (l.take k)) ∧ Below W.heap.size W wr
theorem phex_any (l : List UInt8) (w : World) (hl : l.length ≤ 1000) :
    Calls Tryz.prog 12 #[.string (bs l)] w fun e w' => e = .returned (.string (bs (QBin.hexP l))) ∧ Below w.heap.size w w' := by
  have hdl : (⟨#[48, 49, 50, 51, 52, 53, 54, 55, 56, 57, 97, 98, 99, 100, 101, 102]⟩ : ByteArray) = bs hexL := rfl
  have hdn : hexL.length = 16 := rfl
  have kc := fun (w : World) (C : Array Value) (n c : Nat) => Lib.run_convert_bytes_const (P := Tryz.prog) w 120 5 C n c Tryz.underlying120 Tryz.underlying5
  go_enter Tryz.func12, Tryz.ntmps12
  go_wp2
  go_loopw [3, 9] (fun v i wr => RHexP l w v i wr) (fun _ i _ => l.length - (intOf i).toNat)
  case atStart => exact ⟨0, by omega, rfl, ownB_mark w w.heap.size _ [48, 120] 2 (2, 3) rfl rfl (Nat.le_refl _) (by simp), (Below.refl _ _).alloc (Nat.le_refl _) _⟩
  case round =>
    obtain ⟨k, hk, rfl, hown, hb⟩ := hrel
    have hB := hb.size
    have hpl : (QBin.hexP (l.take k)).length = 2 + 2 * k := by unfold QBin.hexP; rw [List.length_append, QBin.hexF_len, List.length_take]; simp; omega
    by_cases hkn : k < l.length
    · obtain ⟨c, hc⟩ : ∃ c, l[k]? = some c := ⟨l[k], List.getElem?_eq_getElem hkn⟩
      obtain ⟨hc1, hc2⟩ := List.getElem?_eq_some_iff.1 hc
      have HST := hid (show QBin.hexP (l.take k) ++ QBin.hex2 c.toNat = QBin.hexP (l.take (k + 1)) by
        unfold QBin.hexP
        rw [QBin.hexF_take l k c hc, List.append_assoc])
      have hlt := c.toNat_lt
      have hd1 : (c.toNat : Int) / 16 < 16 := by omega
      have hd2 : (0 : Int) ≤ (c.toNat : Int) / 16 := by omega
      have hd3 := and15_u8 c.toNat hlt
      have hd4 : (c.toNat : Int) % 16 < 16 := by omega
      have hd5 : (0 : Int) ≤ (c.toNat : Int) % 16 := by omega
      have HO := hid hown
      clear hown hc
      generalize QBin.hexP (l.take k) = p at *
      have e1 : ((c.toNat : Int) / 16).toNat = c.toNat / 16 := by omega
      have e2 : ((c.toNat : Int) % 16).toNat = c.toNat % 16 := by omega
      go_wp2
      go_region_law (refine step_append_ownB rfl (.tmp 12) (.tmp 23) 120 rfl w.heap.size 5 Tryz.underlying120 infoB8 u3 p (by simp [Act.eval]) ((HO.out.below (Below.refl _ _).drew).alloc _) ⟨wr.heap.size, 0, none⟩ 2 2 (QBin.hex2 c.toNat) (by simp [Act.eval]) rfl (cells_new2 wr.drew _ _ _ _ _ (by simp only [e1, hexL_get]) (by simp only [e2, hexL_get])) (by simp [QBin.hex2]; omega) (by simp; omega) ?_; intro v' w3 hown3 hgrow)
      simp only [List.getElem_toArray, List.getElem_cons_succ, List.getElem_cons_zero, Act.put, List.setIfInBounds_toArray, List.set_cons_succ, List.set_cons_zero]
      go_wp2
      all_goals
        refine ⟨⟨k + 1, by omega, by go_num, by rw [← HST.out]; exact hown3, ?_⟩, by simp [intOf]; omega⟩
        first
          | exact below_appendB (hb.drew.alloc hB _) ((HO.out.below (Below.refl _ _).drew).alloc _) hgrow (by simp; omega)
          | exact below_appendB (hb.alloc hB _).drew ((HO.out.alloc _).below (Below.refl _ _).drew) hgrow (by simp; omega)
    · obtain rfl : k = l.length := by omega
      rw [List.take_length] at hown
      have hcv := conv_back (P := Tryz.prog) 120 9 5 Tryz.underlying120 Tryz.underlying5 Tryz.underlying9 wr w.heap.size _ _ hown (by unfold QBin.hexP; simp)
      clear hown
      go_wp2
      go_ret
      exact ⟨rfl, hb⟩
end Go.Proofs.YtejbigoacknfoaaGreatDoor
