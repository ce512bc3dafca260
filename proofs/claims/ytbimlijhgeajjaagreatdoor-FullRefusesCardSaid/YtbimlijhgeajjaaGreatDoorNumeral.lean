/- Parts of a text. -/
import Derived.Test.YtbimlijhgeajjaaGreatDoorProg
import Derived.Test.YtbimlijhgeajjaaGreatDoorBase
import Derived.Test.YtbimlijhgeajjaaGreatDoorClone
import Derived.Test.YtbimlijhgeajjaaGreatDoorPairKey
import Derived.Test.YtbimlijhgeajjaaGreatDoorShelfL
set_option linter.unusedSectionVars false
set_option linter.unusedSimpArgs false
set_option linter.unusedVariables false
namespace Go.Proofs.YtbimlijhgeajjaaGreatDoor
open Go Go.RowKit
set_option linter.unusedVariables false
theorem cutTo (L : List UInt8) (k : Nat) (hk : k ≤ L.length) (hL : L.length ≤ 1000000) (w : World) :
    (Instr.slice 9 (.string (bs L)) none (some (.int .i64 (k : Int))) none).run Tryz.prog w = .ok (.string (bs (L.take k))) w := by
  simp [go_sem]
  intro h; omega
theorem cutFrom (L : List UInt8) (k : Nat) (hk : k ≤ L.length) (hL : L.length ≤ 1000000) (w : World) :
    (Instr.slice 9 (.string (bs L)) (some (.int .i64 (k : Int))) none none).run Tryz.prog w = .ok (.string (bs (L.drop k))) w := by
  simp [go_sem]
  intro h; omega
end Go.Proofs.YtbimlijhgeajjaaGreatDoor

namespace Go.Proofs.YtbimlijhgeajjaaGreatDoor
open Go Go.RowKit
set_option linter.unusedVariables false
set_option linter.unusedSectionVars false
set_option linter.unusedSimpArgs false
set_option maxRecDepth 100000
theorem bs_list (s : ByteArray) (l : List UInt8) (h : s = bs l) : s.data.toList = l := by rw [h]; simp [bs]
theorem hasP_any (l p : List UInt8) (w : World) : Calls Tryz.prog 124 #[.string (bs l), .string (bs p)] w fun e w' => e = .returned (.bool (p.isPrefixOf l)) ∧ w = w' := by
  refine (Tryz.strings_HasPrefix (bs l) (bs p) w).mono ?_
  rintro e w' ⟨rfl, rfl⟩
  refine ⟨?_, rfl⟩
  simp [bs, Lib.hasPrefix]
theorem low1_any (c : UInt8) (w : World) (h : c.toNat < 128) : Calls Tryz.prog 110 #[.string (bs [c])] w fun e w' => e = .returned (.string (bs [lowA c])) ∧ Below w.heap.size w w' := by
  refine (Tryz.strings_ToLower_ascii (bs [c]) w (by rw [bs_size]; simp) ?_).mono ?_
  · intro j b hb
    have : b ∈ [c] := List.mem_of_getElem? hb
    rw [List.mem_singleton.1 this]; exact h
  · rintro e w' ⟨rfl, hb⟩
    refine ⟨?_, hb⟩
    have : Lib.lowerB c = lowA c := u8_all (fun c => Lib.lowerB c = lowA c) (by decide +kernel) c
    simp [bs, Lib.toLowerA, this]
def RAll (p : UInt8 → Bool) (l : List UInt8) (W1 : World) (i : Value) (wr : World) : Prop :=
  ∃ k : Nat, k ≤ l.length ∧ i = .int .i64 (k : Nat) ∧ l.all p = (l.drop k).all p ∧ Below W1.heap.size W1 wr
set_option maxHeartbeats 4000000 in
theorem all_any (l of : List UInt8) (p : UInt8 → Bool) (hof : ∀ c, decide (Lib.indexByte of c < 0) = !p c) (hl : l.length ≤ 1000000) (hol : of.length ≤ 100) (w : World) :
    Calls Tryz.prog 125 #[.string (bs l), .string (bs of)] w fun e w' => e = .returned (.bool (l.all p && !(l == []))) ∧ Below w.heap.size w w' := by
  have cv := fun w => conv_sb (P := Tryz.prog) 9 197 5 Tryz.underlying9 Tryz.underlying197 Tryz.underlying5 (bs l) w
  obtain ⟨cp, w1, hrun, hcp, hcell, hb1, hsz1, _⟩ := cv w
  rw [bs_size] at hrun
  clear cv
  have HC := hid (show ∀ (j : Nat) (c : UInt8), l[j]? = some c → w1.cell? ⟨w.heap.size, j, none⟩ = some (.int .u8 c.toNat) from fun j c hj => by
    obtain ⟨h1, h2⟩ := List.getElem?_eq_some_iff.1 hj
    subst h2
    exact (hcell j (by rw [bs_size]; exact h1)).trans rfl)
  have ci := fun c w => hid (sIndexByte_any of c w (by omega))
  have HOF := hid hof
  clear hcell hof hcp
  go_enter Tryz.func125, Tryz.ntmps125
  go_wp2
  go_loopw [10] (fun i wr => RAll p l w1 i wr) (fun i _ => l.length - (intOf i).toNat)
  case atStart => exact ⟨0, by omega, rfl, rfl, Below.refl _ _⟩
  case round =>
    obtain ⟨k, hk, rfl, hall, hb⟩ := hrel
    have bb := hb1.trans (hb.mono hb1.size)
    by_cases hlt : k < l.length
    · obtain ⟨c, hc⟩ : ∃ c, l[k]? = some c := ⟨l[k], List.getElem?_eq_getElem hlt⟩
      have hc1 := (hb.cell (p := ⟨w.heap.size, k, none⟩) (by simp; omega)).trans (HC.out k c hc)
      obtain ⟨h1, h2⟩ := List.getElem?_eq_some_iff.1 hc
      rw [List.drop_eq_getElem_cons h1, h2, List.all_cons] at hall
      have hp := HOF.out c
      have ci := ci c
      generalize Lib.indexByte of c = x at *
      cases hq : p c with
      | false =>
        rw [hq, Bool.false_and] at hall
        rw [hq] at hp
        have hx : decide (x < 0) = true := hp
        have HA := hid hall
        clear hall hp hc h1 h2 hq
        go_wp2_with (go_at_call 111; refine (ci _).out.mono ?_; rintro e w2 ⟨rfl, rfl⟩)
        go_ret
        rw [HA.out, Bool.false_and]
        exact ⟨rfl, bb⟩
      | true =>
        rw [hq, Bool.true_and] at hall
        rw [hq] at hp
        have hx : decide (x < 0) = false := hp
        have HA := hid hall
        clear hall hp hc h1 h2 hq
        go_wp2_with (go_at_call 111; refine (ci _).out.mono ?_; rintro e w2 ⟨rfl, rfl⟩)
        go_roundw
        case rel => exact ⟨k + 1, by omega, by go_num, HA.out, hb⟩
        case measure => simp [intOf]; omega
    · obtain rfl : k = l.length := by omega
      have ha : l.all p = true := by rw [hall, List.drop_length]; rfl
      have HA := hid ha
      clear ha hall
      cases l with
      | nil =>
        go_wp2
        go_ret
        rw [HA.out]
        exact ⟨rfl, bb⟩
      | cons x l =>
        have hem : (x :: l).isEmpty = false := rfl
        go_wp2
        go_ret
        rw [HA.out]
        exact ⟨rfl, bb⟩
def RNum (base : Nat) (t : List UInt8) (W1 : World) (n i : Value) (wr : World) : Prop :=
  ∃ (k m : Nat) (a : Int), i = .int .i64 (k : Nat) ∧ n = .int .i64 a ∧ k ≤ t.length ∧ Hid (a = (m : Int) ∧ m < 1099511627776 ∧ numG base t 0 = numG base (t.drop k) m) ∧ Below W1.heap.size W1 wr
/-- -1: it is none -/
def numI (o : Option Nat) : Int := match o with | none => -1 | some n => n
theorem pre_take (l : List UInt8) : [48, 120].isPrefixOf l = decide (l.take 2 = [48, 120]) := by
  match l with
  | [] => rfl
  | [a] => simp [List.isPrefixOf]
  | a :: b :: l =>
    simp only [List.isPrefixOf, Bool.and_true, List.take_succ_cons, List.take_zero]
    by_cases h1 : a = 48
    · by_cases h2 : b = 120
      · subst h1 h2; rfl
      · have : (120 == b) = false := beq_eq_false_iff_ne.2 (fun e => h2 e.symm)
        rw [this, Bool.and_false]
        exact (decide_eq_false (by simp [h2])).symm
    · have : (48 == a) = false := beq_eq_false_iff_ne.2 (fun e => h1 e.symm)
      rw [this, Bool.false_and]
      exact (decide_eq_false (by simp [h1])).symm
set_option maxHeartbeats 16000000 in
theorem rnumeral_any (l : List UInt8) (w : World) (hl : l.length ≤ 1000000) :
    Calls Tryz.prog 87 #[.string (bs l)] w fun e w' => e = .returned (.int .i64 (numI (numL l))) ∧ Below w.heap.size w w' := by
  have ch := fun w => hid (hasP_any l [48, 120] w)
  have h22 : (⟨#[48, 120]⟩ : ByteArray) = bs [48, 120] := rfl
  have hhx : (⟨#[48, 49, 50, 51, 52, 53, 54, 55, 56, 57, 97, 98, 99, 100, 101, 102, 65, 66, 67, 68, 69, 70]⟩ : ByteArray) = bs hex16 := rfl
  have hlw : (⟨#[48, 49, 50, 51, 52, 53, 54, 55, 56, 57, 97, 98, 99, 100, 101, 102]⟩ : ByteArray) = bs low16 := rfl
  have hll : hex16.length = 22 := rfl
  have hl16 : low16.length = 16 := rfl
  have ht1 : hex16.take 22 = hex16 := rfl
  have ht2 : hex16.take 10 = dec10 := rfl
  have cl := fun c h w => hid (low1_any c w h)
  have CI := hid (fun c w => sIndexByte_any low16 c w (by decide))
  have bb0 := Below.refl w.heap.size w
  cases hp : [48, 120].isPrefixOf l
  case false =>
    have hnl : numL l = if l ≠ [48] ∧ l[0]? = some 48 then none else numB 10 l := by
      unfold numL
      rw [if_neg (of_decide_eq_false ((pre_take l).symm.trans hp))]
    rw [hp] at ch
    rw [hnl]
    have ca := fun w => hid (all_any l dec10 (fun c => decide (digV c < 10)) dec_digit hl (by decide) w)
    have hsl : ∀ W, (Instr.slice 9 (.string (bs hex16)) none (some (.int .i64 10)) none).run Tryz.prog W = .ok (.string (bs dec10)) W := fun W => by
      have := cutTo hex16 10 (by decide) (by decide) W
      rw [ht2] at this; exact this
    clear hnl hp
    cases hq : (l.all (fun c => decide (digV c < 10)) && !(l == [])) with
    | false =>
      have hnb : numB 10 l = none := by
        rcases Bool.and_eq_false_iff.1 hq with h | h
        · exact numB_not 10 l h
        · have : l = [] := by simpa using h
          rw [this]; rfl
      rw [hq] at ca
      rw [hnb]
      have HNI : numI (if l ≠ [48] ∧ l[0]? = some 48 then none else none) = -1 := by split <;> rfl
      rw [HNI]
      clear hq hnb HNI
      go_enter Tryz.func87, Tryz.ntmps87
      rw [h22]
      go_wp2_with fail
      refine (ch _).out.mono ?_
      rintro e w2 ⟨rfl, rfl⟩
      go_wp2_with fail
      refine (ca _).out.mono ?_
      rintro e w3 ⟨rfl, hb3⟩
      go_wp2
      go_ret
      exact ⟨rfl, hb3⟩
    | true =>
      obtain ⟨hqa, hqn⟩ := Bool.and_eq_true_iff.1 hq
      have hne : l ≠ [] := by rintro rfl; cases hqn
      have HQ := hid hqa
      rw [hq] at ca
      have h48 : (⟨#[48]⟩ : ByteArray) = bs [48] := rfl
      have hlen := List.length_pos_iff.2 hne
      obtain ⟨x, hx⟩ : ∃ x, l[0]? = some x := ⟨l[0], List.getElem?_eq_getElem hlen⟩
      obtain ⟨hx1, hx2⟩ := List.getElem?_eq_some_iff.1 hx
      have HND := hid (numB_digits 10 l hqa hne)
      by_cases hl48 : l = [48]
      · have HNL := hid (show (if l ≠ [48] ∧ l[0]? = some 48 then none else numB 10 l) = numG 10 l 0 by rw [if_neg (by simp [hl48]), HND.out])
        have hbe : (l == [48]) = true := by rw [hl48]; rfl
        clear hq hqa hqn hne HND hx hx1 hx2
        rw [HNL.out]
        clear hl48
        go_enter Tryz.func87, Tryz.ntmps87
        rw [h22]
        have cv := fun w => conv_sb (P := Tryz.prog) 9 197 5 Tryz.underlying9 Tryz.underlying197 Tryz.underlying5 (bs l) w
        have cv1 := conv1 (P := Tryz.prog) 197 9 5 5 Tryz.underlying197 Tryz.underlying5 Tryz.underlying9
        go_wp2_with fail
        refine (ch _).out.mono ?_
        rintro e w2 ⟨rfl, rfl⟩
        go_wp2_with fail
        refine (ca _).out.mono ?_
        rintro e w3 ⟨rfl, hb3⟩
        obtain ⟨cp, w4, hrun, hcp, hcell, hb4, hsz4, _⟩ := cv w3
        rw [bs_size] at hrun
        go_wp2
        have HC := hid (show ∀ (j : Nat) (c : UInt8), l[j]? = some c → w4.cell? ⟨w3.heap.size, j, none⟩ = some (.int .u8 c.toNat) from fun j c hj => by
          obtain ⟨h1, h2⟩ := List.getElem?_eq_some_iff.1 hj
          subst h2
          exact (hcell j (by rw [bs_size]; exact h1)).trans rfl)
        have hb4' := hb3.trans (hb4.mono hb3.size)
        clear hcell hcp cv ch ca
        go_loopw [4, 36] (fun n i wr => RNum 10 l w4 n i wr) (fun _ i _ => l.length - (intOf i).toNat)
        case atStart => exact ⟨0, 0, 0, rfl, rfl, by omega, hid ⟨rfl, by omega, rfl⟩, Below.refl _ _⟩
        case round =>
          obtain ⟨k, m, a, rfl, rfl, hk, hh, hb⟩ := hrel
          obtain ⟨ha, hm, hst⟩ := hh.out
          clear hh
          have hB := hb.size
          have bb := hb4'.trans (hb.mono hb4'.size)
          by_cases hlt : k < l.length
          · obtain ⟨c, hc⟩ : ∃ c, l[k]? = some c := ⟨l[k], List.getElem?_eq_getElem hlt⟩
            have hc1 := (hb.cell (p := ⟨w3.heap.size, k, none⟩) (by simp; omega)).trans (HC.out k c hc)
            obtain ⟨h1, h2⟩ := List.getElem?_eq_some_iff.1 hc
            have hdg : digV c < 10 := of_decide_eq_true (List.all_eq_true.1 HQ.out c (List.mem_of_getElem? hc))
            obtain ⟨hix, hc128⟩ := low_digit c (by omega)
            rw [List.drop_eq_getElem_cons h1, h2, numG] at hst
            have ci := fun w => hid (CI.out (lowA c) w)
            rw [hix] at ci
            have clo := fun w => hid (cl c hc128 w)
            have cv2 := fun w => hid (cv1 w (c.toNat : Int))
            have cv3 : ∀ w : World, (convert 197 9 (.slice (some ⟨w.heap.size, 0, none⟩) 1 1)).run Tryz.prog (w.alloc (.cells #[.int .u8 (c.toNat : Int)] 5)) = .ok (.string (bs [c])) (w.alloc (.cells #[.int .u8 (c.toNat : Int)] 5)) := fun w => by
              rw [(cv2 w).out, byteOf_toNat]
            clear hix hc h1 h2 cv2 cv1
            by_cases hov : 1099511627776 ≤ m * 10 + digV c
            · rw [if_pos hov] at hst
              have HS := hid hst
              have hov' : 1099511627776 ≤ a * 10 + (digV c : Int) := by omega
              have a0 : 0 ≤ a := by omega
              have a1 : a ≤ 1099511627776 := by omega
              clear hst hov hm ha
              go_wp2_with fail
              refine (clo _).out.mono ?_
              rintro e w5 ⟨rfl, hb5⟩
              go_wp2_with fail
              refine (ci _).out.mono ?_
              rintro e w6 ⟨rfl, rfl⟩
              go_wp2
              go_ret
              rw [HS.out]
              exact ⟨rfl, (bb.alloc bb.size _).trans (hb5.mono (by have := bb.size; simp; omega))⟩
            · rw [if_neg hov] at hst
              have HN : Hid (a * 10 + (digV c : Int) = ((m * 10 + digV c : Nat) : Int) ∧ m * 10 + digV c < 1099511627776 ∧ numG 10 l 0 = numG 10 (l.drop (k + 1)) (m * 10 + digV c)) := hid ⟨by omega, by omega, hst⟩
              have hov' : a * 10 + (digV c : Int) < 1099511627776 := by omega
              have a0 : 0 ≤ a := by omega
              have a1 : a ≤ 1099511627776 := by omega
              clear hst hov hm ha
              go_wp2_with fail
              refine (clo _).out.mono ?_
              rintro e w5 ⟨rfl, hb5⟩
              go_wp2_with fail
              refine (ci _).out.mono ?_
              rintro e w6 ⟨rfl, rfl⟩
              go_wp2
              go_roundw
              case rel => exact ⟨k + 1, m * 10 + digV c, a * 10 + (digV c : Int), by go_num, rfl, by omega, HN, (hb.alloc hB _).trans (hb5.mono (by simp; omega))⟩
              case measure => simp [intOf]; omega
          · obtain rfl : k = l.length := by omega
            rw [List.drop_length] at hst
            have HS := hid (hst.trans rfl)
            clear hst hb HC
            go_wp2
            go_ret
            rw [HS.out]
            exact ⟨by rw [ha]; rfl, bb⟩
      · by_cases hx48 : x = 48
        · have HNL := hid (show (if l ≠ [48] ∧ l[0]? = some 48 then none else numB 10 l) = none by rw [if_pos ⟨hl48, by rw [hx, hx48]⟩])
          have hxi : (l[0].toNat : Int) = 48 := by rw [hx2, hx48]; rfl
          have hbe : (l == [48]) = false := beq_eq_false_iff_ne.2 hl48
          clear hq hqa hqn HND hx
          rw [HNL.out]
          go_enter Tryz.func87, Tryz.ntmps87
          rw [h22]
          go_wp2_with fail
          refine (ch _).out.mono ?_
          rintro e w2 ⟨rfl, rfl⟩
          go_wp2_with fail
          refine (ca _).out.mono ?_
          rintro e w3 ⟨rfl, hb3⟩
          go_wp2
          go_ret
          exact ⟨rfl, hb3⟩
        · have HNL := hid (show (if l ≠ [48] ∧ l[0]? = some 48 then none else numB 10 l) = numG 10 l 0 by rw [if_neg (by rw [hx]; simp [hx48]), HND.out])
          have hbe : (l == [48]) = false := beq_eq_false_iff_ne.2 hl48
          have hxi : ((x.toNat : Int) == 48) = false := by
            rw [beq_eq_false_iff_ne]
            intro e
            exact hx48 (UInt8.toNat_inj.1 (by show x.toNat = 48; omega))
          clear hq hqa hqn hx
          rw [HNL.out]
          go_enter Tryz.func87, Tryz.ntmps87
          rw [h22]
          have cv := fun w => conv_sb (P := Tryz.prog) 9 197 5 Tryz.underlying9 Tryz.underlying197 Tryz.underlying5 (bs l) w
          have cv1 := conv1 (P := Tryz.prog) 197 9 5 5 Tryz.underlying197 Tryz.underlying5 Tryz.underlying9
          go_wp2_with fail
          refine (ch _).out.mono ?_
          rintro e w2 ⟨rfl, rfl⟩
          go_wp2_with fail
          refine (ca _).out.mono ?_
          rintro e w3 ⟨rfl, hb3⟩
          obtain ⟨cp, w4, hrun, hcp, hcell, hb4, hsz4, _⟩ := cv w3
          rw [bs_size] at hrun
          go_wp2
          have HC := hid (show ∀ (j : Nat) (c : UInt8), l[j]? = some c → w4.cell? ⟨w3.heap.size, j, none⟩ = some (.int .u8 c.toNat) from fun j c hj => by
            obtain ⟨h1, h2⟩ := List.getElem?_eq_some_iff.1 hj
            subst h2
            exact (hcell j (by rw [bs_size]; exact h1)).trans rfl)
          have hb4' := hb3.trans (hb4.mono hb3.size)
          clear hcell hcp cv ch ca
          go_loopw [4, 36] (fun n i wr => RNum 10 l w4 n i wr) (fun _ i _ => l.length - (intOf i).toNat)
          case atStart => exact ⟨0, 0, 0, rfl, rfl, by omega, hid ⟨rfl, by omega, rfl⟩, Below.refl _ _⟩
          case round =>
            obtain ⟨k, m, a, rfl, rfl, hk, hh, hb⟩ := hrel
            obtain ⟨ha, hm, hst⟩ := hh.out
            clear hh
            have hB := hb.size
            have bb := hb4'.trans (hb.mono hb4'.size)
            by_cases hlt : k < l.length
            · obtain ⟨c, hc⟩ : ∃ c, l[k]? = some c := ⟨l[k], List.getElem?_eq_getElem hlt⟩
              have hc1 := (hb.cell (p := ⟨w3.heap.size, k, none⟩) (by simp; omega)).trans (HC.out k c hc)
              obtain ⟨h1, h2⟩ := List.getElem?_eq_some_iff.1 hc
              have hdg : digV c < 10 := of_decide_eq_true (List.all_eq_true.1 HQ.out c (List.mem_of_getElem? hc))
              obtain ⟨hix, hc128⟩ := low_digit c (by omega)
              rw [List.drop_eq_getElem_cons h1, h2, numG] at hst
              have ci := fun w => hid (CI.out (lowA c) w)
              rw [hix] at ci
              have clo := fun w => hid (cl c hc128 w)
              have cv2 := fun w => hid (cv1 w (c.toNat : Int))
              have cv3 : ∀ w : World, (convert 197 9 (.slice (some ⟨w.heap.size, 0, none⟩) 1 1)).run Tryz.prog (w.alloc (.cells #[.int .u8 (c.toNat : Int)] 5)) = .ok (.string (bs [c])) (w.alloc (.cells #[.int .u8 (c.toNat : Int)] 5)) := fun w => by
                rw [(cv2 w).out, byteOf_toNat]
              clear hix hc h1 h2 cv2 cv1
              by_cases hov : 1099511627776 ≤ m * 10 + digV c
              · rw [if_pos hov] at hst
                have HS := hid hst
                have hov' : 1099511627776 ≤ a * 10 + (digV c : Int) := by omega
                have a0 : 0 ≤ a := by omega
                have a1 : a ≤ 1099511627776 := by omega
                clear hst hov hm ha
                go_wp2_with fail
                refine (clo _).out.mono ?_
                rintro e w5 ⟨rfl, hb5⟩
                go_wp2_with fail
                refine (ci _).out.mono ?_
                rintro e w6 ⟨rfl, rfl⟩
                go_wp2
                go_ret
                rw [HS.out]
                exact ⟨rfl, (bb.alloc bb.size _).trans (hb5.mono (by have := bb.size; simp; omega))⟩
              · rw [if_neg hov] at hst
                have HN : Hid (a * 10 + (digV c : Int) = ((m * 10 + digV c : Nat) : Int) ∧ m * 10 + digV c < 1099511627776 ∧ numG 10 l 0 = numG 10 (l.drop (k + 1)) (m * 10 + digV c)) := hid ⟨by omega, by omega, hst⟩
                have hov' : a * 10 + (digV c : Int) < 1099511627776 := by omega
                have a0 : 0 ≤ a := by omega
                have a1 : a ≤ 1099511627776 := by omega
                clear hst hov hm ha
                go_wp2_with fail
                refine (clo _).out.mono ?_
                rintro e w5 ⟨rfl, hb5⟩
                go_wp2_with fail
                refine (ci _).out.mono ?_
                rintro e w6 ⟨rfl, rfl⟩
                go_wp2
                go_roundw
                case rel => exact ⟨k + 1, m * 10 + digV c, a * 10 + (digV c : Int), by go_num, rfl, by omega, HN, (hb.alloc hB _).trans (hb5.mono (by simp; omega))⟩
                case measure => simp [intOf]; omega
            · obtain rfl : k = l.length := by omega
              rw [List.drop_length] at hst
              have HS := hid (hst.trans rfl)
              clear hst hb HC
              go_wp2
              go_ret
              rw [HS.out]
              exact ⟨by rw [ha]; rfl, bb⟩
  case true =>
    have hnl : numL l = numB 16 (l.drop 2) := by
      unfold numL
      rw [if_pos (of_decide_eq_true ((pre_take l).symm.trans hp))]
    rw [hp] at ch
    have hl2 : 2 ≤ l.length := by
      have := of_decide_eq_true ((pre_take l).symm.trans hp)
      rcases Nat.lt_or_ge l.length 2 with h | h
      · have := congrArg List.length this; simp at this; omega
      · exact h
    obtain ⟨t, htt⟩ : ∃ t, l.drop 2 = t := ⟨_, rfl⟩
    have htl : t.length ≤ 1000000 := by rw [← htt, List.length_drop]; omega
    rw [htt] at hnl
    rw [hnl]
    have hdl : ∀ W, (Instr.slice 9 (.string (bs l)) (some (.int .i64 2)) none none).run Tryz.prog W = .ok (.string (bs t)) W := fun W => by
      have := cutFrom l 2 (by omega) (by omega) W
      rw [htt] at this; exact this
    have ca := fun w => hid (all_any t hex16 (fun c => decide (digV c < 16)) hex_digit htl (by decide) w)
    have hsl : ∀ W, (Instr.slice 9 (.string (bs hex16)) none (some (.int .i64 22)) none).run Tryz.prog W = .ok (.string (bs hex16)) W := fun W => cutTo hex16 22 (by decide) (by decide) W
    clear hnl hp
    cases hq : (t.all (fun c => decide (digV c < 16)) && !(t == [])) with
    | false =>
      have hnb : numB 16 t = none := by
        rcases Bool.and_eq_false_iff.1 hq with h | h
        · exact numB_not 16 t h
        · have : t = [] := by simpa using h
          rw [this]; rfl
      rw [hq] at ca
      rw [hnb]
      have HNI : numI (none) = -1 := by rfl
      rw [HNI]
      clear hq hnb HNI
      go_enter Tryz.func87, Tryz.ntmps87
      rw [h22]
      go_wp2_with fail
      refine (ch _).out.mono ?_
      rintro e w2 ⟨rfl, rfl⟩
      go_wp2_with fail
      go_quiet (fail)
      go_wp2_with fail
      refine (ca _).out.mono ?_
      rintro e w3 ⟨rfl, hb3⟩
      have hb3 := (below_drewN (Below.refl w.heap.size w) nq).trans hb3
      go_wp2
      go_ret
      exact ⟨rfl, hb3⟩
    | true =>
      obtain ⟨hqa, hqn⟩ := Bool.and_eq_true_iff.1 hq
      have hne : t ≠ [] := by rintro rfl; cases hqn
      have HQ := hid hqa
      rw [hq] at ca
      have HNL := hid (numB_digits 16 t hqa hne)
      clear hq hqa hqn hne
      rw [HNL.out]
      go_enter Tryz.func87, Tryz.ntmps87
      rw [h22]
      have cv := fun w => conv_sb (P := Tryz.prog) 9 197 5 Tryz.underlying9 Tryz.underlying197 Tryz.underlying5 (bs t) w
      have cv1 := conv1 (P := Tryz.prog) 197 9 5 5 Tryz.underlying197 Tryz.underlying5 Tryz.underlying9
      go_wp2_with fail
      refine (ch _).out.mono ?_
      rintro e w2 ⟨rfl, rfl⟩
      go_wp2_with fail
      go_quiet (fail)
      go_wp2_with fail
      refine (ca _).out.mono ?_
      rintro e w3 ⟨rfl, hb3⟩
      have hb3 := (below_drewN (Below.refl w.heap.size w) nq).trans hb3
      obtain ⟨cp, w4, hrun, hcp, hcell, hb4, hsz4, _⟩ := cv w3
      rw [bs_size] at hrun
      go_wp2
      have HC := hid (show ∀ (j : Nat) (c : UInt8), t[j]? = some c → w4.cell? ⟨w3.heap.size, j, none⟩ = some (.int .u8 c.toNat) from fun j c hj => by
        obtain ⟨h1, h2⟩ := List.getElem?_eq_some_iff.1 hj
        subst h2
        exact (hcell j (by rw [bs_size]; exact h1)).trans rfl)
      have hb4' := hb3.trans (hb4.mono hb3.size)
      clear hcell hcp cv ch ca
      go_loopw [4, 36] (fun n i wr => RNum 16 t w4 n i wr) (fun _ i _ => t.length - (intOf i).toNat)
      case atStart => exact ⟨0, 0, 0, rfl, rfl, by omega, hid ⟨rfl, by omega, rfl⟩, Below.refl _ _⟩
      case round =>
        obtain ⟨k, m, a, rfl, rfl, hk, hh, hb⟩ := hrel
        obtain ⟨ha, hm, hst⟩ := hh.out
        clear hh
        have hB := hb.size
        have bb := hb4'.trans (hb.mono hb4'.size)
        by_cases hlt : k < t.length
        · obtain ⟨c, hc⟩ : ∃ c, t[k]? = some c := ⟨t[k], List.getElem?_eq_getElem hlt⟩
          have hc1 := (hb.cell (p := ⟨w3.heap.size, k, none⟩) (by simp; omega)).trans (HC.out k c hc)
          obtain ⟨h1, h2⟩ := List.getElem?_eq_some_iff.1 hc
          have hdg : digV c < 16 := of_decide_eq_true (List.all_eq_true.1 HQ.out c (List.mem_of_getElem? hc))
          obtain ⟨hix, hc128⟩ := low_digit c (by omega)
          rw [List.drop_eq_getElem_cons h1, h2, numG] at hst
          have ci := fun w => hid (CI.out (lowA c) w)
          rw [hix] at ci
          have clo := fun w => hid (cl c hc128 w)
          have cv2 := fun w => hid (cv1 w (c.toNat : Int))
          have cv3 : ∀ w : World, (convert 197 9 (.slice (some ⟨w.heap.size, 0, none⟩) 1 1)).run Tryz.prog (w.alloc (.cells #[.int .u8 (c.toNat : Int)] 5)) = .ok (.string (bs [c])) (w.alloc (.cells #[.int .u8 (c.toNat : Int)] 5)) := fun w => by
            rw [(cv2 w).out, byteOf_toNat]
          clear hix hc h1 h2 cv2 cv1
          by_cases hov : 1099511627776 ≤ m * 16 + digV c
          · rw [if_pos hov] at hst
            have HS := hid hst
            have hov' : 1099511627776 ≤ a * 16 + (digV c : Int) := by omega
            have a0 : 0 ≤ a := by omega
            have a1 : a ≤ 1099511627776 := by omega
            clear hst hov hm ha
            go_wp2_with fail
            refine (clo _).out.mono ?_
            rintro e w5 ⟨rfl, hb5⟩
            go_wp2_with fail
            refine (ci _).out.mono ?_
            rintro e w6 ⟨rfl, rfl⟩
            go_wp2
            go_ret
            rw [HS.out]
            exact ⟨rfl, (bb.alloc bb.size _).trans (hb5.mono (by have := bb.size; simp; omega))⟩
          · rw [if_neg hov] at hst
            have HN : Hid (a * 16 + (digV c : Int) = ((m * 16 + digV c : Nat) : Int) ∧ m * 16 + digV c < 1099511627776 ∧ numG 16 t 0 = numG 16 (t.drop (k + 1)) (m * 16 + digV c)) := hid ⟨by omega, by omega, hst⟩
            have hov' : a * 16 + (digV c : Int) < 1099511627776 := by omega
            have a0 : 0 ≤ a := by omega
            have a1 : a ≤ 1099511627776 := by omega
            clear hst hov hm ha
            go_wp2_with fail
            refine (clo _).out.mono ?_
            rintro e w5 ⟨rfl, hb5⟩
            go_wp2_with fail
            refine (ci _).out.mono ?_
            rintro e w6 ⟨rfl, rfl⟩
            go_wp2
            go_roundw
            case rel => exact ⟨k + 1, m * 16 + digV c, a * 16 + (digV c : Int), by go_num, rfl, by omega, HN, (hb.alloc hB _).trans (hb5.mono (by simp; omega))⟩
            case measure => simp [intOf]; omega
        · obtain rfl : k = t.length := by omega
          rw [List.drop_length] at hst
          have HS := hid (hst.trans rfl)
          clear hst hb HC
          go_wp2
          go_ret
          rw [HS.out]
          exact ⟨by rw [ha]; rfl, bb⟩
end Go.Proofs.YtbimlijhgeajjaaGreatDoor
