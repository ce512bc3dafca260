/- The bytes that a value of Base64 is, by the program. -/
import Derived.Test.YtejbigoacknfoaaGreatDoorBinUn
set_option linter.unusedSectionVars false
set_option linter.unusedSimpArgs false
set_option linter.unusedVariables false
namespace Go.Proofs.YtejbigoacknfoaaGreatDoor
open Go Go.RowKit
set_option linter.unusedVariables false
set_option linter.unusedSectionVars false
set_option linter.unusedSimpArgs false
set_option maxRecDepth 100000
def byteOr (q : List UInt8) (j : Nat) : UInt8 := q.getD j 0
def numQ (q : List UInt8) : Nat → Nat
  | 0 => 0
  | i + 1 => numQ q i * 64 + QBin.sixV (byteOr q i)
theorem numQ_4 (q : List UInt8) : numQ q 4 = QBin.num4 q := by simp [numQ, QBin.num4, byteOr]
theorem numQ_lt (q : List UInt8) (i : Nat) : numQ q i < 64 ^ i := by
  induction i with
  | zero => simp [numQ]
  | succ i ih =>
    have := QBin.six_lt (byteOr q i)
    rw [numQ, Nat.pow_succ]
    omega
theorem or_six (n c : Nat) (hn : n < 262144) (hc : c < 64) : bits .or .i64 ((n : Int) * 64) (c : Int) = ((n * 64 + c : Nat) : Int) := by
  have h1 : n * 64 ||| c = n * 64 + c := by
    have := Nat.shiftLeft_add_eq_or_of_lt (i := 6) (b := c) (by omega) n
    rw [Nat.shiftLeft_eq] at this
    exact this.symm
  have h2 : (BitVec.ofInt 64 ((n : Int) * 64) ||| BitVec.ofInt 64 (c : Int)).toNat = n * 64 + c := by
    rw [BitVec.toNat_or, BitVec.toNat_ofInt, BitVec.toNat_ofInt, ← h1]
    congr 1 <;> omega
  unfold bits
  show IntKind.i64.wrap (((BitVec.ofInt 64 ((n : Int) * 64) ||| BitVec.ofInt 64 (c : Int)).toNat : Nat) : Int) = _
  rw [h2, IntKind.wrap_i64]; omega
theorem six_neg (c : UInt8) : QBin.isSix c = false → Lib.indexByte QBin.letters c = -1 := u8_all (fun c => QBin.isSix c = false → Lib.indexByte QBin.letters c = -1) (by decide +kernel) c
theorem byte61 (c : UInt8) (h : c ≠ 61) : ((c.toNat : Int) == 61) = false := by
  have : c.toNat ≠ 61 := fun e => h (UInt8.toNat_inj.1 e)
  simp; omega
def haveN (b o i : Nat) : Nat := if o + i ≤ b then 4 else b - o
def RUb (s b : List UInt8) (w : World) (v a : Value) (wr : World) : Prop :=
  ∃ g x : Nat, Hid (x = 4 * g + 2) ∧ x ≤ s.length ∧ a = .int .i64 (x : Int) ∧ Hid ((b.take (4 * g)).all QBin.isSix = true ∧ (QBin.outsP (b.take (4 * g))).2 = 0) ∧ OwnB wr w.heap.size 5 v (QBin.outsP (b.take (4 * g))).1 ∧ Below w.heap.size w wr
def RQuad (b : List UInt8) (o : Nat) (W : World) (n h i : Value) (wr : World) : Prop :=
  ∃ j : Nat, j ≤ 4 ∧ n = .int .i64 (numQ (b.drop o) j : Nat) ∧ h = .int .i64 (haveN b.length o j : Nat) ∧ i = .int .i64 (j : Nat) ∧ Hid ((b.take (o + j)).all QBin.isSix = true) ∧ wr = W
set_option maxHeartbeats 8000000 in
theorem unbase_any (s : List UInt8) (w : World) (h2 : 2 ≤ s.length) (hl : s.length ≤ 1000) :
    Calls Tryz.prog 63 #[.string (bs s)] w fun e w' => BinPost (QBin.unbaseP (s.drop 2)) w e w' := by
  have hdl : (⟨#[65, 66, 67, 68, 69, 70, 71, 72, 73, 74, 75, 76, 77, 78, 79, 80, 81, 82, 83, 84, 85, 86, 87, 88, 89, 90, 97, 98, 99, 100, 101, 102, 103, 104, 105, 106, 107, 108, 109, 110, 111, 112, 113, 114, 115, 116, 117, 118, 119, 120, 121, 122, 48, 49, 50, 51, 52, 53, 54, 55, 56, 57, 43, 47]⟩ : ByteArray) = bs QBin.letters := rfl
  obtain ⟨r, hr⟩ : ∃ r, r = s.drop 2 := ⟨_, rfl⟩
  have hrl : r.length = s.length - 2 := by rw [hr, List.length_drop]
  have HR := hid (show ∀ j : Nat, s[j + 2]? = r[j]? from fun j => by rw [hr, List.getElem?_drop, Nat.add_comm])
  rw [← hr]
  clear hr
  by_cases hm : s.length % 4 = 2
  · have hd : (((s.length : Int) % 4) != 2) = false := by simp; omega
    obtain ⟨kk, hk2, hlen, Htail, Hsame, H1, H2⟩ := QBin.body_pos r
    have HUN := hid (show QBin.unbaseP r = if QBin.badI QBin.isSix (QBin.body r) < (QBin.body r).length then ([], 3, ((QBin.badI QBin.isSix (QBin.body r) + 2 : Nat) : Int)) else if (QBin.outsP (QBin.body r)).2 ≠ 0 then ([], 3, (((QBin.body r).length + 1 : Nat) : Int)) else ((QBin.outsP (QBin.body r)).1, 0, -1) by
      unfold QBin.unbaseP
      rw [if_neg (by omega)])
    generalize QBin.body r = b at *
    have HTail := hid Htail; have HSame := hid Hsame; have HH1 := hid H1; have HH2 := hid H2
    clear Htail Hsame H1 H2
    have HUB := hid (show ∀ k c, b[k]? = some c → QBin.isSix c = false → (b.take k).all QBin.isSix = true → QBin.unbaseP r = ([], 3, ((k + 2 : Nat) : Int)) from fun k c hc hn ha => by
      have hb := QBin.badI_at _ _ _ _ hc hn ha
      have hk := (List.getElem?_eq_some_iff.1 hc).1
      rw [HUN.out, hb, if_pos hk])
    have HUG := hid (show b.all QBin.isSix = true → QBin.unbaseP r = if (QBin.outsP b).2 ≠ 0 then ([], 3, ((b.length + 1 : Nat) : Int)) else ((QBin.outsP b).1, 0, -1) from fun ha => by
      rw [HUN.out, QBin.badI_none _ _ ha, if_neg (by omega)])
    clear HUN
    go_enter Tryz.func63, Tryz.ntmps63
    go_wp2
    go_loopw [4, 5] (fun v a wr => RUb s b w v a wr) (fun _ a _ => s.length + 4 - (intOf a).toNat)
    case atStart => exact ⟨0, 2, hid rfl, h2, rfl, hid ⟨by simp, by simp [QBin.outsP]⟩, by simpa [QBin.outsP] using ownB_nil _ _ _, Below.refl _ _⟩
    case round =>
      obtain ⟨g, x, HX, hxs, rfl, HA, hown, hb⟩ := hrel
      have hB := hb.size
      have hgr : x = 4 * g + 2 := HX.out
      by_cases hlt : x < s.length
      · have h42 : 4 * g + 2 ≤ b.length := by omega
        have hx4 : x + 4 ≤ s.length := by omega
        have hlast : ¬ 4 * g + 4 ≤ b.length → x + 4 = s.length := by omega
        obtain ⟨o, ho⟩ : ∃ o, o = 4 * g := ⟨_, rfl⟩
        have HO := hid hown
        clear hown
        have HST := hid (QBin.outs_step b g h42)
        have hpl : (QBin.outsP (b.take (4 * g))).1.length ≤ 1000 := by
          have := (QBin.outsP_append g (b.take (4 * g)) [] (by rw [List.length_take]; omega)).2.2
          omega
        rw [← ho] at HA HO HST hpl h42 hlast
        have ho1 : o ≤ 4 * g := by omega
        have ho2 : 4 * g ≤ o := by omega
        have hxo1 : x ≤ o + 2 := by omega
        have hxo2 : o + 2 ≤ x := by omega
        clear hgr ho
        generalize (QBin.outsP (b.take o)).1 = p at *
        go_wp2
        rename World => W2
        have HAA := hid HA.out.1
        clear HA
        go_loopw [6, 7, 22] (fun n h i wr => RQuad b o W2 n h i wr) (fun _ _ i _ => 4 - (intOf i).toNat)
        case atStart => exact ⟨0, by omega, rfl, by unfold haveN; rw [if_pos (by omega)]; rfl, rfl, HAA, rfl⟩
        case round =>
          obtain ⟨j, hj, rfl, rfl, rfl, HJ, rfl⟩ := hrel
          by_cases hj4 : j < 4
          · have hn := numQ_lt (b.drop o) j
            have hn3 : numQ (b.drop o) j < 262144 := Nat.lt_of_lt_of_le hn (Nat.pow_le_pow_right (n := 64) (show 0 < 64 by omega) (show j ≤ 3 by omega))
            clear hn
            have HN := hid (show numQ (b.drop o) (j + 1) = numQ (b.drop o) j * 64 + QBin.sixV (byteOr (b.drop o) j) from rfl)
            have hw1 : IntKind.i64.wrap ((numQ (b.drop o) j : Int) * 64) = (numQ (b.drop o) j : Int) * 64 := by rw [IntKind.wrap_i64]; omega
            obtain ⟨c, hc⟩ : ∃ c, s[x + j]? = some c := ⟨s[x + j]'(by omega), List.getElem?_eq_getElem (by omega)⟩
            obtain ⟨hc1, hc2⟩ := List.getElem?_eq_some_iff.1 hc
            have hcr : r[o + j]? = some c := by rw [← HR.out, show o + j + 2 = x + j by omega]; exact hc
            have ci := fun w => hid (sIndexByte_any QBin.letters c w (by decide))
            have hj0 : (0 : Int) ≤ (x : Int) + (j : Int) := by omega
            have hj1 : (x : Int) + (j : Int) < (s.length : Int) := by omega
            by_cases hjb : o + j < b.length
            · have hcb : b[o + j]? = some c := by rw [HSame.out _ hjb]; exact hcr
              have HG := hid (show byteOr (b.drop o) j = c by unfold byteOr; rw [List.getD, List.getElem?_drop, hcb]; rfl)
              cases hh : QBin.isSix c with
              | true =>
                have h61 : ((c.toNat : Int) == 61) = false := byte61 c (by rintro rfl; rw [QBin.six_eq] at hh; cases hh)
                rw [QBin.six_of c hh] at ci
                have hsx := QBin.six_lt c
                have hdn : decide ((QBin.sixV c : Int) < 0) = false := decide_eq_false (by omega)
                have hor := or_six (numQ (b.drop o) j) (QBin.sixV c) hn3 hsx
                have HS := hid (QBin.all_step _ _ _ _ hcb hh HJ.out)
                have HV := hid (show haveN b.length o j = haveN b.length o (j + 1) by unfold haveN; rw [if_pos (by omega), if_pos (by omega)])
                clear hcb hcr hh HJ HUB HUG hc HR HTail HSame HH1 HH2 HAA
                go_wp2_with (go_at_call 56; refine (ci _).out.mono ?_; rintro e w1 ⟨rfl, hw1⟩; have hw2 := hw1.symm; clear hw1; subst hw2)
                refine ⟨⟨j + 1, by omega, by rw [HN.out, HG.out, Int.natCast_add, Int.natCast_mul]; rfl, by rw [HV.out], by go_num, hid HS.out, rfl⟩, by simp [intOf]; omega⟩
              | false =>
                have HE := hid (HUB.out _ c hcb hh HJ.out)
                rw [six_neg c hh] at ci
                by_cases hc61 : c = 61
                · have h61 : ((c.toNat : Int) == 61) = true := by rw [hc61]; rfl
                  have HC := hid hc61
                  clear hc61
                  by_cases hxl : s.length ≤ x + 4
                  · have hx4l : (((x : Int) + 4) == (s.length : Int)) = true := by simp; omega
                    have hj3 : j ≤ 2 := by
                      rcases Nat.lt_or_ge j 3 with h | h
                      · omega
                      · have := HH1.out (o + j) (by omega) (by rw [hcr, HC.out])
                        omega
                    have hj3i : ((j : Int) == 3) = false := by simp; omega
                    by_cases hj2 : 2 ≤ j
                    · have hj2i : ((j : Int) == 2) = true := by simp; omega
                      obtain ⟨d, hd3⟩ : ∃ d, s[x + 3]? = some d := ⟨s[x + 3]'(by omega), List.getElem?_eq_getElem (by omega)⟩
                      obtain ⟨hd1, hd2⟩ := List.getElem?_eq_some_iff.1 hd3
                      have hd61 : d ≠ 61 := by
                        rintro rfl
                        have := HH2.out (o + j) (by omega) (by rw [hcr, HC.out]) (by rw [← HR.out, show o + j + 1 + 2 = x + 3 by omega]; exact hd3)
                        omega
                      have hd61i := byte61 d hd61
                      clear hd61
                      have hx30 : (0 : Int) ≤ (x : Int) + 3 := by omega
                      have hx31 : (x : Int) + 3 < (s.length : Int) := by omega
                      clear hcb hcr hh HJ HUB HUG hc HR HTail HSame HH1 HH2 HAA
                      go_wp2_with (go_at_call 56; refine (ci _).out.mono ?_; rintro e w1 ⟨rfl, hw1⟩; have hw2 := hw1.symm; clear hw1; subst hw2)
                      go_ret2
                      rw [HE.out, show o + j + 2 = x + j by omega]
                      exact ⟨⟨_, rfl, .at_ 3 (by omega) _ wr.heap.size (by simp) (by simp)⟩, hb.alloc hB _⟩
                    · have hj2i : ((j : Int) == 2) = false := by simp; omega
                      clear hcb hcr hh HJ HUB HUG hc HR HTail HSame HH1 HH2 HAA
                      go_wp2_with (go_at_call 56; refine (ci _).out.mono ?_; rintro e w1 ⟨rfl, hw1⟩; have hw2 := hw1.symm; clear hw1; subst hw2)
                      go_ret2
                      rw [HE.out, show o + j + 2 = x + j by omega]
                      exact ⟨⟨_, rfl, .at_ 3 (by omega) _ wr.heap.size (by simp) (by simp)⟩, hb.alloc hB _⟩
                  · have hx4l : (((x : Int) + 4) == (s.length : Int)) = false := by simp; omega
                    clear hcb hcr hh HJ HUB HUG hc HR HTail HSame HH1 HH2 HAA
                    go_wp2_with (go_at_call 56; refine (ci _).out.mono ?_; rintro e w1 ⟨rfl, hw1⟩; have hw2 := hw1.symm; clear hw1; subst hw2)
                    go_ret2
                    rw [HE.out, show o + j + 2 = x + j by omega]
                    exact ⟨⟨_, rfl, .at_ 3 (by omega) _ wr.heap.size (by simp) (by simp)⟩, hb.alloc hB _⟩
                · have h61 : ((c.toNat : Int) == 61) = false := byte61 c hc61
                  clear hcb hcr hh HJ HUB HUG hc HR HTail HSame HH1 HH2 HAA
                  go_wp2_with (go_at_call 56; refine (ci _).out.mono ?_; rintro e w1 ⟨rfl, hw1⟩; have hw2 := hw1.symm; clear hw1; subst hw2)
                  go_ret2
                  rw [HE.out, show o + j + 2 = x + j by omega]
                  exact ⟨⟨_, rfl, .at_ 3 (by omega) _ wr.heap.size (by simp) (by simp)⟩, hb.alloc hB _⟩
            · have hjo : 2 ≤ j := by omega
              have hc61 : c = 61 := by
                have := HTail.out (o + j) (by omega) (by omega)
                rw [hcr] at this
                exact Option.some.inj this
              have h61 : ((c.toNat : Int) == 61) = true := by rw [hc61]; rfl
              have hx4l : (((x : Int) + 4) == (s.length : Int)) = true := by simp; omega
              have HG := hid (show byteOr (b.drop o) j = 0 by unfold byteOr; rw [List.getD, List.getElem?_drop, List.getElem?_eq_none (by omega)]; rfl)
              have hor := or_six (numQ (b.drop o) j) 0 hn3 (by omega)
              have HS := hid (show (b.take (o + (j + 1))).all QBin.isSix = true by
                have := HJ.out
                rw [List.take_of_length_le (by omega)] at this ⊢
                exact this)
              rw [six_neg c (by rw [hc61]; exact QBin.six_eq)] at ci
              have HV := hid (show ((min (haveN b.length o j) j : Nat) : Int) = (haveN b.length o (j + 1) : Nat) by unfold haveN; split <;> split <;> omega)
              have hvl : haveN b.length o j ≤ 4 := by unfold haveN; split <;> omega
              have hC61 := HTail.out
              clear hC61
              generalize haveN b.length o j = hv at *
              have hz := hc61
              clear hz hc61
              by_cases hj3 : 3 ≤ j
              · have hj3i : ((j : Int) == 3) = true := by simp; omega
                clear hcr HJ HUB HUG hc HR HTail HSame HH1 HH2 HAA
                go_wp2_with (go_at_call 56; refine (ci _).out.mono ?_; rintro e w1 ⟨rfl, hw1⟩; have hw2 := hw1.symm; clear hw1; subst hw2)
                refine ⟨⟨j + 1, by omega, by rw [HN.out, HG.out, QBin.six_zero]; exact congrArg (Value.int .i64) hor, congrArg (Value.int .i64) (by rw [← HV.out]; split <;> omega), by go_num, hid HS.out, rfl⟩, by simp [intOf]; omega⟩
              · have hj3i : ((j : Int) == 3) = false := by simp; omega
                have hj2i : ((j : Int) == 2) = true := by simp; omega
                obtain ⟨d, hd3⟩ : ∃ d, s[x + 3]? = some d := ⟨s[x + 3]'(by omega), List.getElem?_eq_getElem (by omega)⟩
                obtain ⟨hd1, hd2⟩ := List.getElem?_eq_some_iff.1 hd3
                have hd61 : d = 61 := by
                  have := HTail.out (o + 3) (by omega) (by omega)
                  rw [← HR.out, show o + 3 + 2 = x + 3 by omega, hd3] at this
                  exact Option.some.inj this
                have hd61i : ((d.toNat : Int) == 61) = true := by rw [hd61]; rfl
                clear hd61
                have hx30 : (0 : Int) ≤ (x : Int) + 3 := by omega
                have hx31 : (x : Int) + 3 < (s.length : Int) := by omega
                clear hcr HJ HUB HUG hc HR HTail HSame HH1 HH2 HAA hd3
                go_wp2_with (go_at_call 56; refine (ci _).out.mono ?_; rintro e w1 ⟨rfl, hw1⟩; have hw2 := hw1.symm; clear hw1; subst hw2)
                refine ⟨⟨j + 1, by omega, by rw [HN.out, HG.out, QBin.six_zero]; exact congrArg (Value.int .i64) hor, congrArg (Value.int .i64) (by rw [← HV.out]; split <;> omega), by go_num, hid HS.out, rfl⟩, by simp [intOf]; omega⟩
          · obtain rfl : j = 4 := by omega
            rw [numQ_4]
            have hN := QBin.num4_lt (b.drop o)
            have HS1 := HST.out.1
            have HS2 := HST.out.2
            clear HST
            generalize QBin.num4 (b.drop o) = N at *
            by_cases h4 : o + 4 ≤ b.length
            · have hv : haveN b.length o 4 = 4 := if_pos h4
              have hmin : min 4 (b.length - o) = 4 := by omega
              rw [hmin] at HS1 HS2
              rw [hv]
              have hand : bits .and .i64 (N : Int) 0 = 0 := by simpa using i64_mask (N : Int) 0 0 rfl (by omega)
              have HP := hid HS1
              have HZ := hid (show (QBin.outsP (b.take (o + 4))).2 = 0 from Classical.byContradiction fun h => HS2.1 h (by simp [Nat.mod_one]))
              clear HS1 HS2 hmin hv HUB HUG HR HTail HSame HH1 HH2 HAA
              go_wp2_with (at_builtin; refine list_append_ownB rfl (.tmp 89) (.tmp 101) 120 rfl w.heap.size 5 Tryz.underlying120 infoB8 u4 p rfl (HO.out.alloc _) ⟨wr.heap.size, 0, none⟩ 3 3 ((QBin.bytes3 N).take 3) rfl rfl (cells_new3 wr _ _ _ 3 _ _ _ _ (by simp; try omega) (by simp; try omega) (by simp; try omega)) (by simp [QBin.bytes3]; omega) (by simp; omega) ?_; intro v3 w3 hown3 hgrow3)
              all_goals
                refine ⟨⟨g + 1, x + 4, hid (by have := HX.out; omega), by omega, by go_num, hid ⟨by rw [show 4 * (g + 1) = o + 4 by omega]; exact HJ.out, by rw [show 4 * (g + 1) = o + 4 by omega]; exact HZ.out⟩, by rw [show 4 * (g + 1) = o + 4 by omega, HP.out]; exact hown3, below_appendB (hb.alloc hB _) (HO.out.alloc _) hgrow3 (by simp; omega)⟩, by simp [intOf]; omega⟩
            · by_cases h3 : o + 3 ≤ b.length
              · have hv : haveN b.length o 4 = 3 := by unfold haveN; rw [if_neg h4]; omega
                have hmin : min 4 (b.length - o) = 3 := by omega
                rw [hmin] at HS1 HS2
                rw [hv]
                have hand : bits .and .i64 (N : Int) 255 = (N : Int) % 256 := by simpa using i64_mask (N : Int) 255 8 rfl (by omega)
                by_cases hz : N % 256 = 0
                · have HP := hid HS1
                  have HZ := hid (show (QBin.outsP (b.take (o + 4))).2 = 0 from Classical.byContradiction fun h => HS2.1 h hz)
                  have hzi : (((N : Int) % 256) != 0) = false := by simp; omega
                  clear HS1 HS2 hmin hv HUB HUG HR HTail HSame HH1 HH2 HAA hz
                  go_wp2_with (at_builtin; refine list_append_ownB rfl (.tmp 89) (.tmp 101) 120 rfl w.heap.size 5 Tryz.underlying120 infoB8 u4 p rfl (HO.out.alloc _) ⟨wr.heap.size, 0, none⟩ 2 3 ((QBin.bytes3 N).take 2) rfl rfl (cells_new3 wr _ _ _ 2 _ _ _ _ (by simp; try omega) (by simp; try omega) (by simp; try omega)) (by simp [QBin.bytes3]; omega) (by simp; omega) ?_; intro v3 w3 hown3 hgrow3)
                  all_goals
                    refine ⟨⟨g + 1, x + 4, hid (by have := HX.out; omega), by omega, by go_num, hid ⟨by rw [show 4 * (g + 1) = o + 4 by omega]; exact HJ.out, by rw [show 4 * (g + 1) = o + 4 by omega]; exact HZ.out⟩, by rw [show 4 * (g + 1) = o + 4 by omega, HP.out]; exact hown3, below_appendB (hb.alloc hB _) (HO.out.alloc _) hgrow3 (by simp; omega)⟩, by simp [intOf]; omega⟩
                · have hzi : (((N : Int) % 256) != 0) = true := by simp; omega
                  have hbt : b.take (o + 4) = b := List.take_of_length_le (by omega)
                  have hz2 := HS2.2 hz
                  have hja := HJ.out
                  rw [hbt] at hz2 hja
                  have HE := hid (show QBin.unbaseP r = ([], 3, ((b.length + 1 : Nat) : Int)) by rw [HUG.out hja, if_pos hz2])
                  have HL := hid (show ((b.length + 1 : Nat) : Int) = (x : Int) + 3 - 1 by omega)
                  clear HS1 HS2 hmin hv HUB HUG HR HTail HSame HH1 HH2 HAA hz hbt hz2 hja
                  go_wp2
                  go_ret2
                  rw [HE.out]
                  exact ⟨⟨_, rfl, .at_ 3 (by omega) _ wr.heap.size (by simp) (by simp [HL.out])⟩, hb.alloc hB _⟩
              · have hv : haveN b.length o 4 = 2 := by unfold haveN; rw [if_neg h4]; omega
                have hmin : min 4 (b.length - o) = 2 := by omega
                rw [hmin] at HS1 HS2
                rw [hv]
                have hand : bits .and .i64 (N : Int) 65535 = (N : Int) % 65536 := by simpa using i64_mask (N : Int) 65535 16 rfl (by omega)
                by_cases hz : N % 65536 = 0
                · have HP := hid HS1
                  have HZ := hid (show (QBin.outsP (b.take (o + 4))).2 = 0 from Classical.byContradiction fun h => HS2.1 h hz)
                  have hzi : (((N : Int) % 65536) != 0) = false := by simp; omega
                  clear HS1 HS2 hmin hv HUB HUG HR HTail HSame HH1 HH2 HAA hz
                  go_wp2_with (at_builtin; refine list_append_ownB rfl (.tmp 89) (.tmp 101) 120 rfl w.heap.size 5 Tryz.underlying120 infoB8 u4 p rfl (HO.out.alloc _) ⟨wr.heap.size, 0, none⟩ 1 3 ((QBin.bytes3 N).take 1) rfl rfl (cells_new3 wr _ _ _ 1 _ _ _ _ (by simp; try omega) (by simp; try omega) (by simp; try omega)) (by simp [QBin.bytes3]; omega) (by simp; omega) ?_; intro v3 w3 hown3 hgrow3)
                  all_goals
                    refine ⟨⟨g + 1, x + 4, hid (by have := HX.out; omega), by omega, by go_num, hid ⟨by rw [show 4 * (g + 1) = o + 4 by omega]; exact HJ.out, by rw [show 4 * (g + 1) = o + 4 by omega]; exact HZ.out⟩, by rw [show 4 * (g + 1) = o + 4 by omega, HP.out]; exact hown3, below_appendB (hb.alloc hB _) (HO.out.alloc _) hgrow3 (by simp; omega)⟩, by simp [intOf]; omega⟩
                · have hzi : (((N : Int) % 65536) != 0) = true := by simp; omega
                  have hbt : b.take (o + 4) = b := List.take_of_length_le (by omega)
                  have hz2 := HS2.2 hz
                  have hja := HJ.out
                  rw [hbt] at hz2 hja
                  have HE := hid (show QBin.unbaseP r = ([], 3, ((b.length + 1 : Nat) : Int)) by rw [HUG.out hja, if_pos hz2])
                  have HL := hid (show ((b.length + 1 : Nat) : Int) = (x : Int) + 2 - 1 by omega)
                  clear HS1 HS2 hmin hv HUB HUG HR HTail HSame HH1 HH2 HAA hz hbt hz2 hja
                  go_wp2
                  go_ret2
                  rw [HE.out]
                  exact ⟨⟨_, rfl, .at_ 3 (by omega) _ wr.heap.size (by simp) (by simp [HL.out])⟩, hb.alloc hB _⟩
      · have hlo : s.length ≤ x := by omega
        have hbt : b.take (4 * g) = b := List.take_of_length_le (by omega)
        obtain ⟨ha1, ha2⟩ := HA.out
        rw [hbt] at ha1 ha2 hown
        have HE := hid (show QBin.unbaseP r = ((QBin.outsP b).1, 0, -1) by rw [HUG.out ha1, if_neg (by simp [ha2])])
        have hcv := conv_back' (P := Tryz.prog) 120 9 5 Tryz.underlying120 Tryz.underlying5 Tryz.underlying9 wr w.heap.size _ _ hown
        clear hown HA HUB HUG HR HTail HSame HH1 HH2 ha1 ha2 hbt hgr
        go_wp2
        go_ret2
        rw [HE.out]
        exact ⟨⟨_, rfl, .nil⟩, hb⟩
  · have hd : (((s.length : Int) % 4) != 2) = true := by simp; omega
    have HU := hid (show QBin.unbaseP r = ([], 7, -1) by unfold QBin.unbaseP; rw [if_pos (by omega)])
    go_enter Tryz.func63, Tryz.ntmps63
    go_wp2
    go_ret2
    rw [HU.out]
    exact ⟨⟨_, rfl, .bare 7 (by omega)⟩, Below.refl _ _⟩
end Go.Proofs.YtejbigoacknfoaaGreatDoor
