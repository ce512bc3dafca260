/- The bytes that a hexadecimal value is, by the program. -/
import Derived.Test.YtejbigoacknfoaaGreatDoorOwnC
import Derived.Test.YtejbigoacknfoaaGreatDoorBinRead
import Derived.Test.YtejbigoacknfoaaGreatDoorIndexByte
import Derived.Test.YtejbigoacknfoaaGreatDoorTell
set_option linter.unusedSectionVars false
set_option linter.unusedSimpArgs false
set_option linter.unusedVariables false
namespace Go.Proofs.YtejbigoacknfoaaGreatDoor
open Go Go.RowKit
set_option linter.unusedVariables false
set_option linter.unusedSectionVars false
set_option linter.unusedSimpArgs false
set_option maxRecDepth 100000
/-- bytes, or what is wrong -/
def BinPost (r : List UInt8 × Nat × Int) (w : World) (e : Ending) (w' : World) : Prop :=
  (∃ v, e = .returned (.tuple #[.string (bs r.1), v]) ∧ ErrIs w' v r.2.1 r.2.2) ∧ Below w.heap.size w w'
def hexU (c : UInt8) : UInt8 := if 65 ≤ c.toNat ∧ c.toNat ≤ 70 then UInt8.ofNat (c.toNat + 32) else c
theorem hexU_big (c : UInt8) : 65 ≤ c.toNat ∧ c.toNat ≤ 70 → (hexU c).toNat = c.toNat + 32 := u8_all (fun c => 65 ≤ c.toNat ∧ c.toNat ≤ 70 → (hexU c).toNat = c.toNat + 32) (by decide +kernel) c
theorem hexU_same (c : UInt8) (h : ¬ (65 ≤ c.toNat ∧ c.toNat ≤ 70)) : hexU c = c := if_neg h
theorem hexU_ok (c : UInt8) : QBin.isHex c = true → Lib.indexByte low16 (hexU c) = (digV c : Nat) ∧ digV c < 16 := u8_all (fun c => QBin.isHex c = true → Lib.indexByte low16 (hexU c) = (digV c : Nat) ∧ digV c < 16) (by decide +kernel) c
theorem hexU_not (c : UInt8) : QBin.isHex c = false → Lib.indexByte low16 (hexU c) = -1 := u8_all (fun c => QBin.isHex c = false → Lib.indexByte low16 (hexU c) = -1) (by decide +kernel) c
theorem or_nib (m k : Nat) (hm : m < 16) (hk : k < 16) : bits .or .u8 ((UInt8.ofNat (16 * m)).toNat : Int) (k : Int) = ((UInt8.ofNat (16 * m + k)).toNat : Int) := by
  have : ∀ a b : Fin 16, bits .or .u8 ((UInt8.ofNat (16 * a.val)).toNat : Int) (b.val : Int) = ((UInt8.ofNat (16 * a.val + b.val)).toNat : Int) := by decide +kernel
  exact this ⟨m, hm⟩ ⟨k, hk⟩
def RUnh (s : List UInt8) (w : World) (v i : Value) (wr : World) : Prop :=
  ∃ x : Nat, 2 ≤ x ∧ x ≤ s.length ∧ i = .int .i64 (x : Int) ∧ Hid (((s.drop 2).take (x - 2)).all QBin.isHex = true) ∧ OwnB wr w.heap.size 5 v (QBin.accH ((s.drop 2).take (x - 2))) ∧ Below w.heap.size w wr
set_option maxHeartbeats 4000000 in
theorem unhex_any (s : List UInt8) (w : World) (h2 : 2 ≤ s.length) (hl : s.length ≤ 1000) :
    Calls Tryz.prog 62 #[.string (bs s)] w fun e w' => BinPost (QBin.unhexP (s.drop 2)) w e w' := by
  have hdl : (⟨#[48, 49, 50, 51, 52, 53, 54, 55, 56, 57, 97, 98, 99, 100, 101, 102]⟩ : ByteArray) = bs low16 := rfl
  have hrl : (s.drop 2).length = s.length - 2 := List.length_drop
  by_cases hodd : s.length % 2 = 1
  · have HU := hid (show QBin.unhexP (s.drop 2) = ([], 7, -1) by unfold QBin.unhexP; rw [if_pos (by omega)])
    have hd : (((s.length : Int) % 2) != 0) = true := by simp; omega
    go_enter Tryz.func62, Tryz.ntmps62
    go_wp2
    go_ret2
    rw [HU.out]
    exact ⟨⟨_, rfl, .bare 7 (by omega)⟩, Below.refl _ _⟩
  · have hd : (((s.length : Int) % 2) != 0) = false := by simp; omega
    have HUB := hid (show ∀ k c, (s.drop 2)[k]? = some c → QBin.isHex c = false → ((s.drop 2).take k).all QBin.isHex = true → QBin.unhexP (s.drop 2) = ([], 3, ((k + 2 : Nat) : Int)) from fun k c hc hn ha => by
      have hb := QBin.badI_at _ _ _ _ hc hn ha
      have hk := (List.getElem?_eq_some_iff.1 hc).1
      unfold QBin.unhexP
      rw [if_neg (by omega), hb, if_pos hk])
    have HUG := hid (show (s.drop 2).all QBin.isHex = true → QBin.unhexP (s.drop 2) = (QBin.accH (s.drop 2), 0, -1) from fun ha => by
      unfold QBin.unhexP
      rw [if_neg (by omega), QBin.badI_none _ _ ha, if_neg (by omega)])
    go_enter Tryz.func62, Tryz.ntmps62
    go_wp2
    go_loopw [4, 5] (fun v i wr => RUnh s w v i wr) (fun _ i _ => s.length - (intOf i).toNat)
    case atStart => exact ⟨2, by omega, h2, rfl, hid (by simp), by simpa [QBin.accH] using ownB_nil _ _ _, Below.refl _ _⟩
    case round =>
      obtain ⟨x, hx2, hxs, rfl, HA, hown, hb⟩ := hrel
      have hB := hb.size
      by_cases hlt : x < s.length
      · obtain ⟨c, hc⟩ : ∃ c, s[x]? = some c := ⟨s[x], List.getElem?_eq_getElem hlt⟩
        obtain ⟨hc1, hc2⟩ := List.getElem?_eq_some_iff.1 hc
        have hcr : (s.drop 2)[x - 2]? = some c := by rw [List.getElem?_drop, show 2 + (x - 2) = x by omega]; exact hc
        have ci := fun w => hid (sIndexByte_any low16 (hexU c) w (by decide))
        have HO := hid hown
        clear hown
        have hcl := c.toNat_lt
        have e32 : ((c.toNat + 32 : Nat) : Int) = (c.toNat : Int) + 32 := by omega
        cases hh : QBin.isHex c with
        | false =>
          have HE := hid (HUB.out _ c hcr hh HA.out)
          have hxk : x - 2 + 2 = x := by omega
          rw [hexU_not c hh] at ci
          clear hcr hh HUB HUG HA hc
          by_cases hbig : 65 ≤ c.toNat ∧ c.toNat ≤ 70
          · rw [hexU_big c hbig, e32] at ci
            have hg1 : (65 : Int) ≤ (c.toNat : Int) := by omega
            have hg2 : (c.toNat : Int) ≤ 70 := by omega
            have hw : IntKind.u8.wrap ((c.toNat : Int) + 32) = (c.toNat : Int) + 32 := by rw [IntKind.wrap_u8]; omega
            go_wp2_with (go_at_call 56; refine (ci _).out.mono ?_; rintro e w1 ⟨rfl, hw1⟩; have hw2 := hw1.symm; clear hw1; subst hw2)
            go_ret2
            rw [HE.out]
            exact ⟨⟨_, rfl, .at_ 3 (by omega) _ wr.heap.size (by simp [hxk]) (by simp [hxk])⟩, hb.alloc hB _⟩
          · by_cases hsm : 65 ≤ c.toNat
            · rw [hexU_same c hbig] at ci
              have hg1 : (65 : Int) ≤ (c.toNat : Int) := by omega
              have hg2 : ¬ (c.toNat : Int) ≤ 70 := by omega
              go_wp2_with (go_at_call 56; refine (ci _).out.mono ?_; rintro e w1 ⟨rfl, hw1⟩; have hw2 := hw1.symm; clear hw1; subst hw2)
              go_ret2
              rw [HE.out]
              exact ⟨⟨_, rfl, .at_ 3 (by omega) _ wr.heap.size (by simp [hxk]) (by simp [hxk])⟩, hb.alloc hB _⟩
            · rw [hexU_same c hbig] at ci
              have hg1 : ¬ (65 : Int) ≤ (c.toNat : Int) := by omega
              go_wp2_with (go_at_call 56; refine (ci _).out.mono ?_; rintro e w1 ⟨rfl, hw1⟩; have hw2 := hw1.symm; clear hw1; subst hw2)
              go_ret2
              rw [HE.out]
              exact ⟨⟨_, rfl, .at_ 3 (by omega) _ wr.heap.size (by simp [hxk]) (by simp [hxk])⟩, hb.alloc hB _⟩
        | true =>
          obtain ⟨hix, hd16⟩ := hexU_ok c hh
          rw [hix] at ci
          have HS := hid (QBin.all_step _ _ _ _ hcr hh HA.out)
          have hdn : decide ((digV c : Int) < 0) = false := decide_eq_false (by omega)
          clear hix
          by_cases hev : x % 2 = 0
          · have he : (((x : Int) % 2) == 0) = true := by simp; omega
            have hw6 : IntKind.i64.wrap ((digV c : Int) * 16) = (digV c : Int) * 16 := by rw [IntKind.wrap_i64]; omega
            have hw7 : IntKind.u8.wrap ((digV c : Int) * 16) = (digV c : Int) * 16 := by rw [IntKind.wrap_u8]; omega
            have HK := hid (show (digV c : Int) * 16 = ((UInt8.ofNat (16 * digV c)).toNat : Int) by simp; omega)
            have hn2 : x - 2 = 2 * ((x - 2) / 2) := by omega
            have HP := hid (show QBin.accH ((s.drop 2).take (x + 1 - 2)) = QBin.accH ((s.drop 2).take (x - 2)) ++ [UInt8.ofNat (16 * digV c)] by
              have := QBin.accH_one (s.drop 2) ((x - 2) / 2) c (by omega) (by rw [← hn2]; exact hcr)
              rw [← hn2] at this
              rw [show x + 1 - 2 = x - 2 + 1 by omega]; exact this)
            have hpl : (QBin.accH ((s.drop 2).take (x - 2))).length ≤ 1000 := by
              rw [QBin.accH_len ((x - 2) / 2) _ (by rw [List.length_take]; omega)]; omega
            generalize QBin.accH ((s.drop 2).take (x - 2)) = p at *
            clear hcr hh HUB HUG HA hc hn2
            by_cases hbig : 65 ≤ c.toNat ∧ c.toNat ≤ 70
            · rw [hexU_big c hbig, e32] at ci
              have hg1 : (65 : Int) ≤ (c.toNat : Int) := by omega
              have hg2 : (c.toNat : Int) ≤ 70 := by omega
              have hw : IntKind.u8.wrap ((c.toNat : Int) + 32) = (c.toNat : Int) + 32 := by rw [IntKind.wrap_u8]; omega
              go_wp2_with first
                | (go_at_call 56; refine (ci _).out.mono ?_; rintro e w1 ⟨rfl, hw1⟩; have hw2 := hw1.symm; clear hw1; subst hw2)
                | (at_builtin; refine list_append_ownB rfl (.tmp 41) (.tmp 45) 120 rfl w.heap.size 5 Tryz.underlying120 infoB8 u4 p rfl (HO.out.alloc _) ⟨wr.heap.size, 0, none⟩ 1 1 [UInt8.ofNat (16 * digV c)] rfl rfl (cells_new1 wr _ _ _ HK.out) (by simp; omega) (by simp; omega) ?_; intro v3 w3 hown3 hgrow3)
              refine ⟨⟨x + 1, by omega, by omega, by go_num, hid (by rw [show x + 1 - 2 = x - 2 + 1 by omega]; exact HS.out), by rw [HP.out]; exact hown3, below_appendB (hb.alloc hB _) (HO.out.alloc _) hgrow3 (by simp; omega)⟩, by simp [intOf]; omega⟩
            · by_cases hsm : 65 ≤ c.toNat
              · rw [hexU_same c hbig] at ci
                have hg1 : (65 : Int) ≤ (c.toNat : Int) := by omega
                have hg2 : ¬ (c.toNat : Int) ≤ 70 := by omega
                go_wp2_with first
                  | (go_at_call 56; refine (ci _).out.mono ?_; rintro e w1 ⟨rfl, hw1⟩; have hw2 := hw1.symm; clear hw1; subst hw2)
                  | (at_builtin; refine list_append_ownB rfl (.tmp 41) (.tmp 45) 120 rfl w.heap.size 5 Tryz.underlying120 infoB8 u4 p rfl (HO.out.alloc _) ⟨wr.heap.size, 0, none⟩ 1 1 [UInt8.ofNat (16 * digV c)] rfl rfl (cells_new1 wr _ _ _ HK.out) (by simp; omega) (by simp; omega) ?_; intro v3 w3 hown3 hgrow3)
                refine ⟨⟨x + 1, by omega, by omega, by go_num, hid (by rw [show x + 1 - 2 = x - 2 + 1 by omega]; exact HS.out), by rw [HP.out]; exact hown3, below_appendB (hb.alloc hB _) (HO.out.alloc _) hgrow3 (by simp; omega)⟩, by simp [intOf]; omega⟩
              · rw [hexU_same c hbig] at ci
                have hg1 : ¬ (65 : Int) ≤ (c.toNat : Int) := by omega
                go_wp2_with first
                  | (go_at_call 56; refine (ci _).out.mono ?_; rintro e w1 ⟨rfl, hw1⟩; have hw2 := hw1.symm; clear hw1; subst hw2)
                  | (at_builtin; refine list_append_ownB rfl (.tmp 41) (.tmp 45) 120 rfl w.heap.size 5 Tryz.underlying120 infoB8 u4 p rfl (HO.out.alloc _) ⟨wr.heap.size, 0, none⟩ 1 1 [UInt8.ofNat (16 * digV c)] rfl rfl (cells_new1 wr _ _ _ HK.out) (by simp; omega) (by simp; omega) ?_; intro v3 w3 hown3 hgrow3)
                refine ⟨⟨x + 1, by omega, by omega, by go_num, hid (by rw [show x + 1 - 2 = x - 2 + 1 by omega]; exact HS.out), by rw [HP.out]; exact hown3, below_appendB (hb.alloc hB _) (HO.out.alloc _) hgrow3 (by simp; omega)⟩, by simp [intOf]; omega⟩
          · have he : (((x : Int) % 2) == 0) = false := by simp; omega
            obtain ⟨n, hn⟩ : ∃ n, x - 2 = 2 * n + 1 := ⟨(x - 2) / 2, by omega⟩
            obtain ⟨a, ha⟩ : ∃ a, (s.drop 2)[2 * n]? = some a := ⟨(s.drop 2)[2 * n]'(by omega), List.getElem?_eq_getElem (by omega)⟩
            have ha16 : digV a < 16 := by
              have h1 : a ∈ (s.drop 2).take (x - 2) := by
                rw [hn]
                exact List.mem_of_getElem? (i := 2 * n) (by rw [List.getElem?_take, if_pos (by omega)]; exact ha)
              exact (hexU_ok a (List.all_eq_true.1 HA.out a h1)).2
            have HP := hid (show QBin.accH ((s.drop 2).take (x + 1 - 2)) = QBin.accH ((s.drop 2).take (2 * n)) ++ [UInt8.ofNat (16 * digV a + digV c)] by
              rw [show x + 1 - 2 = 2 * n + 2 by omega, QBin.accH_two (s.drop 2) n a c ha (by rw [← hn]; exact hcr)]; rfl)
            have hO1 := HO.out
            rw [hn, QBin.accH_one (s.drop 2) n a (by omega) ha] at hO1
            have hpl : (QBin.accH ((s.drop 2).take (2 * n))).length ≤ 1000 := by
              rw [QBin.accH_len n _ (by rw [List.length_take]; omega)]; omega
            generalize QBin.accH ((s.drop 2).take (2 * n)) = p at *
            obtain ⟨g, cap, hv, hcap, hbg, hgs, hcell, hfz, hnew⟩ := hO1.last (y := UInt8.ofNat (16 * digV a + digV c))
            have hor := or_nib (digV a) (digV c) ha16 hd16
            have hor2 : bits .or .u8 (16 * (digV a : Int) % 256) (digV c : Int) = ((UInt8.ofNat (16 * digV a + digV c)).toNat : Int) := by
              rw [← hor]; congr 1
            have hw6 : IntKind.u8.wrap (digV c : Int) = (digV c : Int) := by rw [IntKind.wrap_u8]; omega
            have HN := hid hnew
            clear hcr hh HUB HUG HA hc ha hO1 HO hnew
            rw [hv]
            by_cases hbig : 65 ≤ c.toNat ∧ c.toNat ≤ 70
            · rw [hexU_big c hbig, e32] at ci
              have hg1 : (65 : Int) ≤ (c.toNat : Int) := by omega
              have hg2 : (c.toNat : Int) ≤ 70 := by omega
              have hw : IntKind.u8.wrap ((c.toNat : Int) + 32) = (c.toNat : Int) + 32 := by rw [IntKind.wrap_u8]; omega
              go_wp2_with (go_at_call 56; refine (ci _).out.mono ?_; rintro e w1 ⟨rfl, hw1⟩; have hw2 := hw1.symm; clear hw1; subst hw2)
              refine ⟨⟨x + 1, by omega, by omega, by go_num, hid (by rw [show x + 1 - 2 = x - 2 + 1 by omega]; exact HS.out), ?_, hb.setCell hbg _⟩, by simp [intOf]; omega⟩
              have HN := HN.out
              rw [hv] at HN
              rw [show ((UInt8.ofNat (16 * digV a + digV c)).toNat : Int) = (16 * (digV a : Int) + (digV c : Int)) % 256 by simp] at HN
              rw [HP.out]
              exact HN
            · by_cases hsm : 65 ≤ c.toNat
              · rw [hexU_same c hbig] at ci
                have hg1 : (65 : Int) ≤ (c.toNat : Int) := by omega
                have hg2 : ¬ (c.toNat : Int) ≤ 70 := by omega
                go_wp2_with (go_at_call 56; refine (ci _).out.mono ?_; rintro e w1 ⟨rfl, hw1⟩; have hw2 := hw1.symm; clear hw1; subst hw2)
                refine ⟨⟨x + 1, by omega, by omega, by go_num, hid (by rw [show x + 1 - 2 = x - 2 + 1 by omega]; exact HS.out), ?_, hb.setCell hbg _⟩, by simp [intOf]; omega⟩
                have HN := HN.out
                rw [hv] at HN
                rw [show ((UInt8.ofNat (16 * digV a + digV c)).toNat : Int) = (16 * (digV a : Int) + (digV c : Int)) % 256 by simp] at HN
                rw [HP.out]
                exact HN
              · rw [hexU_same c hbig] at ci
                have hg1 : ¬ (65 : Int) ≤ (c.toNat : Int) := by omega
                go_wp2_with (go_at_call 56; refine (ci _).out.mono ?_; rintro e w1 ⟨rfl, hw1⟩; have hw2 := hw1.symm; clear hw1; subst hw2)
                refine ⟨⟨x + 1, by omega, by omega, by go_num, hid (by rw [show x + 1 - 2 = x - 2 + 1 by omega]; exact HS.out), ?_, hb.setCell hbg _⟩, by simp [intOf]; omega⟩
                have HN := HN.out
                rw [hv] at HN
                rw [show ((UInt8.ofNat (16 * digV a + digV c)).toNat : Int) = (16 * (digV a : Int) + (digV c : Int)) % 256 by simp] at HN
                rw [HP.out]
                exact HN
      · obtain rfl : x = s.length := by omega
        have e1 : (s.drop 2).take (s.length - 2) = s.drop 2 := List.take_of_length_le (by omega)
        rw [e1] at HA hown
        have HE := hid (HUG.out HA.out)
        have hcv := conv_back' (P := Tryz.prog) 120 9 5 Tryz.underlying120 Tryz.underlying5 Tryz.underlying9 wr w.heap.size _ _ hown
        clear hown e1 HUB HUG HA
        go_wp2
        go_ret2
        rw [HE.out]
        exact ⟨⟨_, rfl, .nil⟩, hb⟩
end Go.Proofs.YtejbigoacknfoaaGreatDoor
