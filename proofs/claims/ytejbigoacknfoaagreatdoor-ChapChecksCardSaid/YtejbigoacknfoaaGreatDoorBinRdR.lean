/- The bytes that a value is, by the document. -/
import Derived.Test.YtejbigoacknfoaaGreatDoorBinR
import Derived.Test.YtejbigoacknfoaaGreatDoorBinLow
import Derived.Test.YtejbigoacknfoaaGreatDoorIndexByte
import Derived.Test.YtejbigoacknfoaaGreatDoorFault
import Derived.Deep.DeepCutAuto
set_option linter.unusedSectionVars false
set_option linter.unusedSimpArgs false
set_option linter.unusedVariables false
namespace Go.Proofs.YtejbigoacknfoaaGreatDoor
open Go Go.RowKit
set_option linter.unusedVariables false
set_option linter.unusedSectionVars false
set_option linter.unusedSimpArgs false
set_option maxRecDepth 100000
def RChk (p : UInt8 → Bool) (L : List UInt8) (W : World) (i : Value) (wr : World) : Prop :=
  ∃ k : Nat, k ≤ L.length ∧ i = .int .i64 (k : Nat) ∧ Hid ((L.take k).all p = true) ∧ wr = W
def RHx (r : List UInt8) (W : World) (t o : Value) (wr : World) : Prop :=
  ∃ k x : Nat, Hid (x = 2 * k) ∧ x ≤ r.length ∧ t = .string (bs (r.drop x)) ∧ o = .string (bs (QBin.accH (r.take x))) ∧ Below W.heap.size W wr
def RB6 (b : List UInt8) (W : World) (o i : Value) (wr : World) : Prop :=
  ∃ k : Nat, k ≤ b.length ∧ o = .string (bs (QBin.bits6F (b.take k))) ∧ i = .int .i64 (k : Nat) ∧ Below W.heap.size W wr
def RB8 (L : List UInt8) (W : World) (t o : Value) (wr : World) : Prop :=
  ∃ k x : Nat, Hid (x = 8 * k) ∧ x ≤ L.length ∧ t = .string (bs (L.drop x)) ∧ o = .string (bs (QBin.chop8 k L)) ∧ Below W.heap.size W wr
/-- the result's block is as it was laid -/
def FBlk (p : Nat) (w : World) : Prop := w.heap[p]? = some (.cells #[.int .i64 0, .int .i64 0] 24 (0, 0))
theorem FBlk.c0 {p : Nat} {w : World} (h : FBlk p w) : w.cell? ⟨p, 0, none⟩ = some (.int .i64 0) := by rw [cell_of_row _ _ _ _ _ _ h]; rfl
theorem FBlk.c1 {p : Nat} {w : World} (h : FBlk p w) : w.cell? ⟨p, 1, none⟩ = some (.int .i64 0) := by rw [cell_of_row _ _ _ _ _ _ h]; rfl
theorem FBlk.f0 {p : Nat} {w : World} (h : FBlk p w) : w.frozen? ⟨p, 0, none⟩ = false := frozen_of_row _ _ _ _ _ h
theorem FBlk.f1 {p : Nat} {w : World} (h : FBlk p w) : w.frozen? ⟨p, 1, none⟩ = false := frozen_of_row _ _ _ _ _ h
theorem FBlk.lt {p : Nat} {w : World} (h : FBlk p w) : p < w.heap.size := (Array.getElem?_eq_some_iff.1 h).1
theorem FBlk.below {p : Nat} {w w' : World} (h : FBlk p w) (hb : Below w.heap.size w w') : FBlk p w' := (hb.block p h.lt).trans h
theorem FBlk.drew {p : Nat} {w : World} (h : FBlk p w) : FBlk p w.drew := h
theorem low_x (b : UInt8) : lowT b = [120] ↔ b = 120 ∨ b = 88 := u8_all (fun b => lowT b = [120] ↔ b = 120 ∨ b = 88) (by decide +kernel) b
theorem low_b (b : UInt8) : lowT b = [98] ↔ b = 98 ∨ b = 66 := u8_all (fun b => lowT b = [98] ↔ b = 98 ∨ b = 66) (by decide +kernel) b
theorem six_idx (c : UInt8) : decide (Lib.indexByte QBin.letters c < 0) = !QBin.isSix c := u8_all (fun c => decide (Lib.indexByte QBin.letters c < 0) = !QBin.isSix c) (by decide +kernel) c
theorem hex_idx (c : UInt8) : decide (Lib.indexByte hex16 c < 0) = !QBin.isHex c := hex_digit c
def BinRPost (r : List UInt8 × Nat × Int) (w : World) (e : Ending) (w' : World) : Prop :=
  e = .returned (.tuple #[.string (bs r.1), faultV r.2.1 r.2.2]) ∧ Below w.heap.size w w'
section
variable (s : List UInt8) (w : World) (hl : s.length ≤ 1000) (hD : DT w) (hL : LT w)
include hl hD hL
set_option maxHeartbeats 8000000 in
theorem rbinary_any : Calls Tryz.prog 10 #[.string (bs s)] w fun e w' => BinRPost (binP s) w e w' := by
  have hA := (Below.refl w.heap.size w).alloc (Nat.le_refl _) (.cells #[.int .i64 0, .int .i64 0] 24)
  have F0 : FBlk w.heap.size (w.alloc (.cells #[.int .i64 0, .int .i64 0] 24)) := heap_alloc_new _ _
  have cbare := fun k w1 => hid (bareF_any k w1)
  have cgood := fun w1 => hid (good_any w1)
  by_cases h2 : s.length < 2
  · have HE := hid (show binP s = ([], 3, -1) by unfold binP; rw [if_pos (Or.inl h2)])
    have HA := hid hA
    have HF := hid F0
    clear hA F0
    go_enter Tryz.func10, Tryz.ntmps10
    go_wp2_with (go_at_call 54; refine (cbare _ _).out.mono ?_; rintro e w9 ⟨rfl, hb9⟩; have F9 := HF.out.below hb9; have q0 := F9.c0; have q1 := F9.c1; have q2 := F9.f0; have q3 := F9.f1; clear F9)
    refine bodyPost_ret (v := .tuple #[.string (⟨#[]⟩), .agg #[.int .i64 3, .int .i64 (-1)]]) (by simp [results, Tryz.results10, go_sem, q0, q1]) rfl ⟨?_, ((HA.out.trans (hb9.mono HA.out.size)).setCell (Nat.le_refl _) _).setCell (Nat.le_refl _) _⟩
    rw [HE.out]; rfl
  · obtain ⟨a, hi0⟩ : ∃ a, s[0]? = some a := ⟨s[0]'(by omega), List.getElem?_eq_getElem (by omega)⟩
    obtain ⟨b, hi1⟩ : ∃ b, s[1]? = some b := ⟨s[1]'(by omega), List.getElem?_eq_getElem (by omega)⟩
    have HB := hid (show binP s = if a ≠ 48 then ([], 3, -1) else if b = 120 ∨ b = 88 then QBin.unhexP (s.drop 2) else if b = 98 ∨ b = 66 then QBin.unbaseP (s.drop 2) else ([], 3, -1) by
      unfold binP
      rw [show s.getD 0 0 = a by simp [List.getD, hi0], show s.getD 1 0 = b by simp [List.getD, hi1]]
      by_cases ha : a = 48
      · rw [if_neg (show ¬ (s.length < 2 ∨ a ≠ 48) from fun h => h.elim h2 fun h => h ha), if_neg (show ¬ a ≠ 48 from fun h => h ha)]
      · rw [if_pos (show s.length < 2 ∨ a ≠ 48 from Or.inr ha), if_pos (show a ≠ 48 from ha)])
    have hs1 : s.take 1 = [a] := by
      match s, hi0 with
      | x :: s, h => simp at h; simp [h]
    have hs2 : (s.take 2).drop 1 = [b] := by
      match s, hi1 with
      | x :: y :: s, h => simp at h; simp [h]
    have hrl : (s.drop 2).length ≤ 1000 := by rw [List.length_drop]; omega
    have hdx : (⟨#[48, 120]⟩ : ByteArray) = bs [48, 120] := rfl
    have hdb : (⟨#[48, 98]⟩ : ByteArray) = bs [48, 98] := rfl
    have cl := fun w1 (h : Below w.heap.size w w1) => hid (lowT_any b w1 (hL.below h))
    have LX := hid (show ∀ t : List UInt8, t = a :: lowT b → ((t = [48, 120] ↔ a = 48 ∧ (b = 120 ∨ b = 88)) ∧ (t = [48, 98] ↔ a = 48 ∧ (b = 98 ∨ b = 66))) from fun t ht => by
      subst ht
      rw [← low_x, ← low_b]
      simp)
    clear hi0 hi1
    obtain ⟨r, hr⟩ : ∃ r, s.drop 2 = r := ⟨_, rfl⟩
    rw [hr] at HB hrl
    have HA := hid hA
    have HF := hid F0
    have HDW := hid (show ∀ w1, Below w.heap.size w w1 → DT w1 from fun w1 h => hD.below h)
    clear hA F0 hL hD
    obtain ⟨t, ht⟩ : ∃ t, t = a :: lowT b := ⟨_, rfl⟩
    obtain ⟨LX1, LX2⟩ := LX.out t ht
    have hte : a :: lowT b = t := ht.symm
    have hte2 : [a] ++ lowT b = t := ht.symm
    clear LX ht
    have hlb : (lowT b).length ≤ 3 := by unfold lowT; split <;> simp
    generalize lowT b = lb at *
    go_enter Tryz.func10, Tryz.ntmps10
    go_upto_region 4 with fail
    go_cut [27] (fun s27 wx => s27 = .string (bs t) ∧ FBlk w.heap.size wx ∧ Below w.heap.size w wx)
    case first =>
      go_region_with first
        | (go_at_call 55; refine (cl _ (HA.out.drew)).out.mono ?_; rintro e w1 ⟨rfl, hb1⟩)
      all_goals
        go_wp2_with fail
        go_meet
        exact ⟨rfl, HF.out.drew.below hb1, HA.out.drew.trans (hb1.mono HA.out.drew.size)⟩
    case rest =>
      obtain ⟨rfl, HF1, HB1⟩ := hcut
      have HF1 := hid HF1
      have hB1 := HB1.size
      by_cases hx : t = [48, 120]
      · obtain ⟨ha, hbx⟩ := LX1.1 hx
        have HE0 := hid (show binP s = QBin.unhexP r by rw [HB.out, if_neg (show ¬ a ≠ 48 from fun h => h ha), if_pos hbx])
        have htx : (t == [48, 120]) = true := by rw [hx]; rfl
        clear LX1 LX2 HB ha hbx hx
        by_cases hodd : r.length % 2 = 1
        · have hpi : (((r.length : Int) % 2) == 1) = true := by simp; omega
          have HE := hid (show binP s = ([], 7, -1) by rw [HE0.out]; unfold QBin.unhexP; rw [if_pos hodd])
          clear HE0 hodd
          go_wp2_with (go_at_call 54; refine (cbare _ _).out.mono ?_; rintro e w9 ⟨rfl, hb9⟩; have F9 := HF1.out.below hb9; have q0 := F9.c0; have q1 := F9.c1; have q2 := F9.f0; have q3 := F9.f1; clear F9)
          refine bodyPost_ret (v := .tuple #[.string (⟨#[]⟩), .agg #[.int .i64 7, .int .i64 (-1)]]) (by simp [results, Tryz.results10, go_sem, q0, q1]) rfl ⟨?_, ((HB1.trans (hb9.mono HB1.size)).setCell (Nat.le_refl _) _).setCell (Nat.le_refl _) _⟩
          rw [HE.out]; rfl
        · have hpi : (((r.length : Int) % 2) == 1) = false := by simp; omega
          have hxl : (⟨#[48, 49, 50, 51, 52, 53, 54, 55, 56, 57, 97, 98, 99, 100, 101, 102, 65, 66, 67, 68, 69, 70]⟩ : ByteArray) = bs hex16 := rfl
          have HUB := hid (show ∀ k c, r[k]? = some c → QBin.isHex c = false → (r.take k).all QBin.isHex = true → binP s = ([], 3, ((k + 2 : Nat) : Int)) from fun k c hc hn ha => by
            have hb := QBin.badI_at _ _ _ _ hc hn ha
            have hk := (List.getElem?_eq_some_iff.1 hc).1
            rw [HE0.out]
            unfold QBin.unhexP
            rw [if_neg hodd, hb, if_pos hk])
          have HUG := hid (show r.all QBin.isHex = true → binP s = (QBin.accH r, 0, -1) from fun ha => by
            rw [HE0.out]
            unfold QBin.unhexP
            rw [if_neg hodd, QBin.badI_none _ _ ha, if_neg (by omega)])
          have HEV := hid (show r.length % 2 = 0 by omega)
          clear HE0 hodd
          go_wp2
          go_loopw [37] (fun i wr => RChk QBin.isHex r wc i wr) (fun i _ => r.length - (intOf i).toNat)
          case atStart => exact ⟨0, by omega, rfl, hid rfl, rfl⟩
          case round =>
            obtain ⟨k, hk, rfl, HK, rfl⟩ := hrel
            by_cases hkn : k < r.length
            · obtain ⟨c, hc⟩ : ∃ c, r[k]? = some c := ⟨r[k], List.getElem?_eq_getElem hkn⟩
              obtain ⟨hc1, hc2⟩ := List.getElem?_eq_some_iff.1 hc
              have ci := fun w => hid (sIndexByte_any hex16 c w (by decide))
              have hix := hex_idx c
              generalize Lib.indexByte hex16 c = xi at *
              cases hh : QBin.isHex c with
              | true =>
                rw [hh] at hix
                have hxi : decide (xi < 0) = false := hix
                have HS := hid (QBin.all_step _ _ _ _ hc hh HK.out)
                clear hix HK HUB HUG hc hh
                go_wp2_with (go_at_call 56; refine (ci _).out.mono ?_; rintro e w1 ⟨rfl, hw1⟩; have hw2 := hw1.symm; clear hw1; subst hw2)
                refine ⟨⟨k + 1, by omega, by go_num, hid HS.out, rfl⟩, by simp [intOf]; omega⟩
              | false =>
                rw [hh] at hix
                have hxi : decide (xi < 0) = true := hix
                have HE := hid (HUB.out k c hc hh HK.out)
                have q0 := HF1.out.c0
                have q1 := HF1.out.c1
                have q2 := HF1.out.f0
                have q3 := HF1.out.f1
                clear hix HK HUB HUG hc hh
                go_wp2_with (go_at_call 56; refine (ci _).out.mono ?_; rintro e w1 ⟨rfl, hw1⟩; have hw2 := hw1.symm; clear hw1; subst hw2)
                refine bodyPost_ret (v := .tuple #[.string (⟨#[]⟩), .agg #[.int .i64 3, .int .i64 ((k : Int) + 2)]]) (by simp [results, Tryz.results10, go_sem, q0, q1]) rfl ⟨?_, (HB1.setCell (Nat.le_refl _) _).setCell (Nat.le_refl _) _⟩
                rw [HE.out]; rfl
            · obtain rfl : k = r.length := by omega
              have hka := HK.out
              rw [List.take_length] at hka
              have HE := hid (HUG.out hka)
              have HDG := hid (show ∀ c ∈ r, digV c < 16 from fun c hc => of_decide_eq_true (List.all_eq_true.1 hka c hc))
              clear hka HK HUB HUG
              have cv1 := conv1 (P := Tryz.prog) 120 9 5 5 Tryz.underlying120 Tryz.underlying5 Tryz.underlying9
              go_wp2
              rename World => W2
              go_loopw [4, 6] (fun t o wr => RHx r W2 t o wr) (fun t _ _ => strLen t)
              case atStart => exact ⟨0, 0, hid rfl, by omega, rfl, rfl, Below.refl _ _⟩
              case round =>
                obtain ⟨k, x, HX, hxr, rfl, rfl, hb⟩ := hrel
                have hB := hb.size
                have hdl : (r.drop x).length = r.length - x := List.length_drop
                by_cases hlt : x < r.length
                · have hxk : x = 2 * k := HX.out
                  have hev := HEV.out
                  have hx2 : x + 2 ≤ r.length := by omega
                  obtain ⟨c1, hc1⟩ : ∃ c, r[2 * k]? = some c := ⟨r[2 * k]'(by omega), List.getElem?_eq_getElem (by omega)⟩
                  obtain ⟨c2, hc2⟩ : ∃ c, r[2 * k + 1]? = some c := ⟨r[2 * k + 1]'(by omega), List.getElem?_eq_getElem (by omega)⟩
                  have htk : (r.drop x).take 2 = [c1, c2] := by
                    obtain ⟨g1, g2⟩ := List.getElem?_eq_some_iff.1 hc1
                    obtain ⟨g3, g4⟩ := List.getElem?_eq_some_iff.1 hc2
                    rw [hxk, List.drop_eq_getElem_cons g1, List.drop_eq_getElem_cons g3, g2, g4]; rfl
                  have hd1 := HDG.out c1 (List.mem_of_getElem? hc1)
                  have hd2 := HDG.out c2 (List.mem_of_getElem? hc2)
                  have hval : valD 16 [c1, c2] = 16 * digV c1 + digV c2 := by simp [valD]; omega
                  have HAC := hid (show QBin.accH (r.take (x + 2)) = QBin.accH (r.take x) ++ [UInt8.ofNat (16 * digV c1 + digV c2)] by rw [hxk, QBin.accH_two r k c1 c2 hc1 hc2]; rfl)
                  have hpl : (QBin.accH (r.take x)).length ≤ 1000 := by rw [QBin.accH_len k _ (by rw [List.length_take]; omega)]; omega
                  have cp := fun w => hid (pint_16 [c1, c2] w (by simp) (by simp) (by intro c hc; simp at hc; rcases hc with rfl | rfl <;> assumption))
                  rw [hval] at cp
                  have HDR := hid (show (r.drop x).drop 2 = r.drop (x + 2) by rw [List.drop_drop])
                  have HX2 := hid (show x + 2 = 2 * (k + 1) by omega)
                  have hw1 : IntKind.u8.wrap ((16 * digV c1 + digV c2 : Nat) : Int) = ((16 * digV c1 + digV c2 : Nat) : Int) := by rw [IntKind.wrap_u8]; omega
                  have HBO := hid (show byteOf ((16 * digV c1 + digV c2 : Nat) : Int) = UInt8.ofNat (16 * digV c1 + digV c2) from rfl)
                  have hne : (r.drop x == []) = false := by
                    cases hq : r.drop x with
                    | nil => rw [hq] at hdl; simp at hdl; omega
                    | cons a l => rfl
                  clear hxk hev hc1 hc2 hval hd1 hd2
                  generalize 16 * digV c1 + digV c2 = V at *
                  generalize QBin.accH (r.take x) = p at *
                  obtain ⟨d, hd⟩ : ∃ d, d = r.drop x := ⟨_, rfl⟩
                  rw [← hd] at htk HDR hne hdl
                  rw [← hd]
                  clear hd
                  go_wp2_with fail
                  refine (cp _).out.mono ?_
                  rintro e w1 ⟨rfl, hb1⟩
                  have HB2 := hid (hb.trans (hb1.mono hB)); clear hb1 hb
                  go_wp2
                  exact ⟨⟨k + 1, x + 2, hid HX2.out, hx2, by rw [List.take_of_length_le (by omega), HDR.out], by rw [HAC.out, HBO.out], HB2.out.alloc HB2.out.size _⟩, by simp [strLen, bs_size, List.length_drop, List.length_take]; omega⟩
                · obtain rfl : x = r.length := by omega
                  have F9 := HF1.out.below hb
                  have hd0 : r.drop r.length = [] := List.drop_length
                  rw [hd0, List.take_length]
                  have HB3 := hid (HB1.trans (hb.mono hB1))
                  clear hd0
                  go_wp2_with (go_at_call 58; refine (cgood _).out.mono ?_; rintro e w9 ⟨rfl, hb9⟩; have F9 := F9.below hb9; have q0 := F9.c0; have q1 := F9.c1; have q2 := F9.f0; have q3 := F9.f1; clear F9)
                  refine bodyPost_ret (v := .tuple #[.string (bs (QBin.accH r)), .agg #[.int .i64 0, .int .i64 (-1)]]) (by simp [results, Tryz.results10, go_sem, q0, q1]) rfl ⟨?_, ((HB3.out.trans (hb9.mono HB3.out.size)).setCell (Nat.le_refl _) _).setCell (Nat.le_refl _) _⟩
                  rw [HE.out]; rfl
      · have hnx : (t == [48, 120]) = false := beq_eq_false_iff_ne.2 hx
        by_cases hbb : t = [48, 98]
        · obtain ⟨ha, hbx⟩ := LX2.1 hbb
          have HE0 := hid (show binP s = QBin.unbaseP r by
            rw [HB.out, if_neg (show ¬ a ≠ 48 from fun h => h ha), if_neg, if_pos hbx]
            rcases hbx with rfl | rfl <;> decide)
          have htb : (t == [48, 98]) = true := by rw [hbb]; rfl
          clear LX1 LX2 HB ha hbx hx hbb
          by_cases hm4 : r.length % 4 = 0
          · have hpi : (((r.length : Int) % 4) != 0) = false := by simp; omega
            have HEV := hid hm4
            have hU := HE0.out
            unfold QBin.unbaseP at hU
            rw [if_neg (by omega)] at hU
            have HU := hid hU
            have HLE := hid (show (QBin.cutE r).length ≤ r.length ∧ (QBin.cutE (QBin.cutE r)).length ≤ r.length from by
              have h1 : ∀ q : List UInt8, (QBin.cutE q).length ≤ q.length := fun q => by unfold QBin.cutE; split <;> simp
              exact ⟨h1 r, Nat.le_trans (h1 _) (h1 r)⟩)
            have ct1 := fun w1 => hid (trimE_any r w1 hrl)
            have ct2 := fun w1 => hid (trimE_any (QBin.cutE r) w1 (Nat.le_trans HLE.out.1 hrl))
            have hxe : (⟨#[61]⟩ : ByteArray) = bs [61] := rfl
            clear HE0 hm4 hU
            obtain ⟨kk, hkk, hrb, _⟩ := QBin.body_pos r
            have HB4 := hid (show (QBin.body r).length % 4 ≠ 1 by have := HEV.out; omega)
            clear hkk hrb HEV
            by_cases hce : QBin.cutE r = r
            · have hbd : QBin.body r = r := by unfold QBin.body; rw [hce, hce]
              rw [hce] at ct1
              rw [hbd] at HU HB4
              have hcb : (r == r) = true := by simp
              clear ct2 HLE hce hbd
              have hbl := hrl
              have HIX := hid (fun c => six_idx c)
              have hlet : (⟨#[65, 66, 67, 68, 69, 70, 71, 72, 73, 74, 75, 76, 77, 78, 79, 80, 81, 82, 83, 84, 85, 86, 87, 88, 89, 90, 97, 98, 99, 100, 101, 102, 103, 104, 105, 106, 107, 108, 109, 110, 111, 112, 113, 114, 115, 116, 117, 118, 119, 120, 121, 122, 48, 49, 50, 51, 52, 53, 54, 55, 56, 57, 43, 47]⟩ : ByteArray) = bs QBin.letters := rfl
              have hone : (⟨#[49]⟩ : ByteArray) = bs [49] := rfl
              have HUB := hid (show ∀ k c, r[k]? = some c → QBin.isSix c = false → (r.take k).all QBin.isSix = true → binP s = ([], 3, ((k + 2 : Nat) : Int)) from fun k c hc hn ha => by
                have hb := QBin.badI_at _ _ _ _ hc hn ha
                have hk := (List.getElem?_eq_some_iff.1 hc).1
                rw [HU.out, hb, if_pos hk])
              have HUG := hid (show r.all QBin.isSix = true → binP s = if (QBin.outsP r).2 ≠ 0 then ([], 3, ((r.length + 1 : Nat) : Int)) else ((QBin.outsP r).1, 0, -1) from fun ha => by
                rw [HU.out, QBin.badI_none _ _ ha, if_neg (by omega)])
              clear HU
              go_wp2_with fail
              refine (ct1 _).out.mono ?_
              rintro e w1 ⟨rfl, hw1⟩
              have hw2 := hw1.symm
              clear hw1
              subst hw2
              go_wp2
              go_loopw [83] (fun i wr => RChk QBin.isSix r wc i wr) (fun i _ => r.length - (intOf i).toNat)
              case atStart => exact ⟨0, by omega, rfl, hid rfl, rfl⟩
              case round =>
                obtain ⟨k, hk, rfl, HK, rfl⟩ := hrel
                by_cases hkn : k < r.length
                · obtain ⟨c, hc⟩ : ∃ c, r[k]? = some c := ⟨r[k], List.getElem?_eq_getElem hkn⟩
                  obtain ⟨hc1, hc2⟩ := List.getElem?_eq_some_iff.1 hc
                  have ci := fun w => hid (sIndexByte_any QBin.letters c w (by decide))
                  have hix := HIX.out c
                  generalize Lib.indexByte QBin.letters c = xi at *
                  cases hh : QBin.isSix c with
                  | true =>
                    rw [hh] at hix
                    have hxi : decide (xi < 0) = false := hix
                    have HS := hid (QBin.all_step _ _ _ _ hc hh HK.out)
                    clear hix HK HUB HUG hc hh
                    go_wp2_with (go_at_call 56; refine (ci _).out.mono ?_; rintro e w1 ⟨rfl, hw1⟩; have hw2 := hw1.symm; clear hw1; subst hw2)
                    refine ⟨⟨k + 1, by omega, by go_num, hid HS.out, rfl⟩, by simp [intOf]; omega⟩
                  | false =>
                    rw [hh] at hix
                    have hxi : decide (xi < 0) = true := hix
                    have HE := hid (HUB.out k c hc hh HK.out)
                    have q0 := HF1.out.c0
                    have q1 := HF1.out.c1
                    have q2 := HF1.out.f0
                    have q3 := HF1.out.f1
                    clear hix HK HUB HUG hc hh
                    go_wp2_with (go_at_call 56; refine (ci _).out.mono ?_; rintro e w1 ⟨rfl, hw1⟩; have hw2 := hw1.symm; clear hw1; subst hw2)
                    refine bodyPost_ret (v := .tuple #[.string (⟨#[]⟩), .agg #[.int .i64 3, .int .i64 ((k : Int) + 2)]]) (by simp [results, Tryz.results10, go_sem, q0, q1]) rfl ⟨?_, (HB1.setCell (Nat.le_refl _) _).setCell (Nat.le_refl _) _⟩
                    rw [HE.out]; rfl
                · obtain rfl : k = r.length := by omega
                  have hka := HK.out
                  rw [List.take_length] at hka
                  have HE := hid (HUG.out hka)
                  have HOK := hid (show ∀ c ∈ r, QBin.isSix c = true from List.all_eq_true.1 hka)
                  clear hka HK HUB HUG
                  go_wp2
                  rename World => W2
                  go_loopw [11, 97] (fun o i wr => RB6 r W2 o i wr) (fun _ i _ => r.length - (intOf i).toNat)
                  case atStart => exact ⟨0, by omega, rfl, rfl, Below.refl _ _⟩
                  case round =>
                    obtain ⟨k, hk, rfl, rfl, hb⟩ := hrel
                    have hB := hb.size
                    have hpl : (QBin.bits6F (r.take k)).length = 6 * k := by rw [QBin.bits6F_len, List.length_take]; omega
                    by_cases hkn : k < r.length
                    · obtain ⟨c, hc⟩ : ∃ c, r[k]? = some c := ⟨r[k], List.getElem?_eq_getElem hkn⟩
                      obtain ⟨hc1, hc2⟩ := List.getElem?_eq_some_iff.1 hc
                      have ci := fun w => hid (sIndexByte_any QBin.letters c w (by decide))
                      rw [QBin.six_of c (HOK.out c (List.mem_of_getElem? hc))] at ci
                      have hs6 := QBin.six_lt c
                      have HST := hid (QBin.bits6F_take r k c hc)
                      have cd := hid (show Calls Tryz.prog 60 #[.int .i64 (QBin.sixV c : Nat), .int .i64 2, .int .i64 6] wr _ from rdigits_any 2 6 (QBin.sixV c) wr (Or.inl rfl) (by omega) (by omega) (HDW.out _ (HB1.trans (hb.mono hB1))))
                      rw [QBin.pad_bits6 _ hs6] at cd
                      have hql : (QBin.bits6 (QBin.sixV c)).length = 6 := rfl
                      generalize QBin.bits6F (r.take k) = p at *
                      generalize QBin.bits6 (QBin.sixV c) = q at *
                      clear hc
                      go_wp2_with fail
                      refine (ci _).out.mono ?_
                      rintro e w1 ⟨rfl, hw1⟩
                      have hw2 := hw1.symm
                      clear hw1
                      subst hw2
                      go_wp2_with fail
                      refine cd.out.mono ?_
                      rintro e w1 ⟨rfl, hb1⟩
                      have HB2 := hid (hb.trans (hb1.mono hB)); clear hb1 hb
                      go_wp2
                      exact ⟨⟨k + 1, by omega, by rw [HST.out], by go_num, HB2.out⟩, by simp [intOf]; omega⟩
                    · obtain rfl : k = r.length := by omega
                      rw [List.take_length] at hpl ⊢
                      have HLT := hid (QBin.bits6F_lt r)
                      have HR1 := hid (QBin.eq_bits r.length r (Nat.le_refl _) HB4.out)
                      have HR2 := hid (QBin.bitR_len r)
                      have HRD := hid (show QBin.bitR r = (QBin.chop8 (6 * r.length / 8) (QBin.bits6F r), (QBin.bits6F r).drop (8 * (6 * r.length / 8))) from rfl)
                      have HB5 := hid (HB1.trans (hb.mono hB1))
                      have HF5 := hid (HF1.out.below hb)
                      generalize QBin.bits6F r = L at *
                      clear HOK hb
                      go_wp2
                      rename World => W3
                      go_loopw [11, 13] (fun t o wr => RB8 L W3 t o wr) (fun t _ _ => strLen t)
                      case atStart => exact ⟨0, 0, hid rfl, by omega, rfl, rfl, Below.refl _ _⟩
                      case round =>
                        obtain ⟨k, x, HX, hxr, rfl, rfl, hb⟩ := hrel
                        have hB := hb.size
                        have hdl : (L.drop x).length = L.length - x := List.length_drop
                        have hcl := QBin.chop8_len k L
                        have hk1 : k ≤ 1000 := by have := HX.out; omega
                        by_cases hlt : 8 ≤ L.length - x
                        · have h6l : ((L.drop x).take 8).length = 8 := by rw [List.length_take]; omega
                          have h6d : ∀ c ∈ (L.drop x).take 8, digV c < 2 := fun c hc => HLT.out c (List.mem_of_mem_drop (List.mem_of_mem_take hc))
                          have HSN := hid (show QBin.chop8 (k + 1) L = QBin.chop8 k L ++ [UInt8.ofNat (valD 2 ((L.drop x).take 8))] by rw [QBin.chop8_succ, HX.out])
                          have cp := fun w => hid (pint_2 ((L.drop x).take 8) w (by omega) (by omega) h6d)
                          have hV : valD 2 ((L.drop x).take 8) < 256 := by
                            have := valD_lt 2 (by omega) ((L.drop x).take 8) h6d 8 (by omega)
                            rw [List.take_of_length_le (by omega)] at this
                            exact this
                          have HDR := hid (show (L.drop x).drop 8 = L.drop (x + 8) by rw [List.drop_drop])
                          have HX2 := hid (show x + 8 = 8 * (k + 1) by have := HX.out; omega)
                          have cv1 := conv1 (P := Tryz.prog) 120 9 5 5 Tryz.underlying120 Tryz.underlying5 Tryz.underlying9
                          have hw1 : IntKind.u8.wrap ((valD 2 ((L.drop x).take 8) : Nat) : Int) = ((valD 2 ((L.drop x).take 8) : Nat) : Int) := by rw [IntKind.wrap_u8]; omega
                          have HBO := hid (show byteOf ((valD 2 ((L.drop x).take 8) : Nat) : Int) = UInt8.ofNat (valD 2 ((L.drop x).take 8)) from rfl)
                          generalize valD 2 ((L.drop x).take 8) = V at *
                          generalize QBin.chop8 k L = p at *
                          obtain ⟨d, hd⟩ : ∃ d, d = L.drop x := ⟨_, rfl⟩
                          rw [← hd] at HDR hdl cp h6l
                          rw [← hd]
                          clear hd h6d
                          go_wp2_with fail
                          refine (cp _).out.mono ?_
                          rintro e w1 ⟨rfl, hb1⟩
                          have HB2 := hid (hb.trans (hb1.mono hB)); clear hb1 hb
                          go_wp2
                          exact ⟨⟨k + 1, x + 8, hid HX2.out, by omega, by rw [List.take_of_length_le (by omega), HDR.out], by rw [HSN.out, HBO.out], HB2.out.alloc HB2.out.size _⟩, by simp [strLen, bs_size, List.length_drop, List.length_take]; omega⟩
                        · have hk6 : 6 * r.length / 8 = k := by have := HX.out; omega
                          have F9 := HF5.out.below hb
                          have HB3 := hid (HB5.out.trans (hb.mono HB5.out.size))
                          have hrd := HRD.out
                          rw [hk6, ← HX.out] at hrd
                          have hr1 := HR1.out
                          have hr2 := HR2.out
                          rw [hrd] at hr1 hr2
                          have hr2 : (L.drop x).length = 6 * r.length % 8 := hr2
                          have hb4 := HB4.out
                          have hl4 : (L.drop x).length ≤ 4 := by omega
                          have c49 := fun w => hid (has49_any (L.drop x) w)
                          have hoe : QBin.chop8 k L = (QBin.outsP r).1 := hr1.1
                          have hmem : 49 ∈ L.drop x ↔ (QBin.outsP r).2 ≠ 0 := hr1.2
                          rw [hoe] at hcl ⊢
                          clear hr1 hrd hoe HRD HR1 HR2 hr2
                          generalize L.drop x = d at *
                          by_cases h49 : 49 ∈ d
                          · have HE2 := hid (show binP s = ([], 3, ((r.length + 1 : Nat) : Int)) by rw [HE.out, if_pos (hmem.1 h49)])
                            rw [decide_eq_true h49] at c49
                            have q0 := F9.c0
                            have q1 := F9.c1
                            have q2 := F9.f0
                            have q3 := F9.f1
                            clear h49 hmem HE F9
                            go_wp2_with fail
                            refine (c49 _).out.mono ?_
                            rintro e w1 ⟨rfl, hw1⟩
                            have hw2 := hw1.symm
                            clear hw1
                            subst hw2
                            go_wp2
                            refine bodyPost_ret (v := .tuple #[.string (⟨#[]⟩), .agg #[.int .i64 3, .int .i64 ((r.length : Int) + 1)]]) (by simp [results, Tryz.results10, go_sem, q0, q1]) rfl ⟨?_, (HB3.out.setCell (Nat.le_refl _) _).setCell (Nat.le_refl _) _⟩
                            rw [HE2.out]; rfl
                          · have HE2 := hid (show binP s = ((QBin.outsP r).1, 0, -1) by rw [HE.out, if_neg (fun h => h49 (hmem.2 h))])
                            rw [decide_eq_false h49] at c49
                            clear h49 hmem HE
                            go_wp2_with fail
                            refine (c49 _).out.mono ?_
                            rintro e w1 ⟨rfl, hw1⟩
                            have hw2 := hw1.symm
                            clear hw1
                            subst hw2
                            go_wp2_with (go_at_call 58; refine (cgood _).out.mono ?_; rintro e w9 ⟨rfl, hb9⟩; have F9 := F9.below hb9; have q0 := F9.c0; have q1 := F9.c1; have q2 := F9.f0; have q3 := F9.f1; clear F9)
                            refine bodyPost_ret (v := .tuple #[.string (bs (QBin.outsP r).1), .agg #[.int .i64 0, .int .i64 (-1)]]) (by simp [results, Tryz.results10, go_sem, q0, q1]) rfl ⟨?_, ((HB3.out.trans (hb9.mono HB3.out.size)).setCell (Nat.le_refl _) _).setCell (Nat.le_refl _) _⟩
                            rw [HE2.out]; rfl
            · have hcb : (QBin.cutE r == r) = false := beq_eq_false_iff_ne.2 hce
              have hbl := Nat.le_trans HLE.out.2 hrl
              have hcl1 := Nat.le_trans HLE.out.1 hrl
              rw [show QBin.body r = QBin.cutE (QBin.cutE r) from rfl] at HU HB4
              clear HLE hce
              generalize QBin.cutE (QBin.cutE r) = b at *
              generalize QBin.cutE r = c1 at *
              have HIX := hid (fun c => six_idx c)
              have hlet : (⟨#[65, 66, 67, 68, 69, 70, 71, 72, 73, 74, 75, 76, 77, 78, 79, 80, 81, 82, 83, 84, 85, 86, 87, 88, 89, 90, 97, 98, 99, 100, 101, 102, 103, 104, 105, 106, 107, 108, 109, 110, 111, 112, 113, 114, 115, 116, 117, 118, 119, 120, 121, 122, 48, 49, 50, 51, 52, 53, 54, 55, 56, 57, 43, 47]⟩ : ByteArray) = bs QBin.letters := rfl
              have hone : (⟨#[49]⟩ : ByteArray) = bs [49] := rfl
              have HUB := hid (show ∀ k c, b[k]? = some c → QBin.isSix c = false → (b.take k).all QBin.isSix = true → binP s = ([], 3, ((k + 2 : Nat) : Int)) from fun k c hc hn ha => by
                have hb := QBin.badI_at _ _ _ _ hc hn ha
                have hk := (List.getElem?_eq_some_iff.1 hc).1
                rw [HU.out, hb, if_pos hk])
              have HUG := hid (show b.all QBin.isSix = true → binP s = if (QBin.outsP b).2 ≠ 0 then ([], 3, ((b.length + 1 : Nat) : Int)) else ((QBin.outsP b).1, 0, -1) from fun ha => by
                rw [HU.out, QBin.badI_none _ _ ha, if_neg (by omega)])
              clear HU
              go_wp2_with fail
              refine (ct1 _).out.mono ?_
              rintro e w1 ⟨rfl, hw1⟩
              have hw2 := hw1.symm
              clear hw1
              subst hw2
              go_wp2_with fail
              refine (ct2 _).out.mono ?_
              rintro e w1 ⟨rfl, hw1⟩
              have hw2 := hw1.symm
              clear hw1
              subst hw2
              go_wp2
              go_loopw [83] (fun i wr => RChk QBin.isSix b wc i wr) (fun i _ => b.length - (intOf i).toNat)
              case atStart => exact ⟨0, by omega, rfl, hid rfl, rfl⟩
              case round =>
                obtain ⟨k, hk, rfl, HK, rfl⟩ := hrel
                by_cases hkn : k < b.length
                · obtain ⟨c, hc⟩ : ∃ c, b[k]? = some c := ⟨b[k], List.getElem?_eq_getElem hkn⟩
                  obtain ⟨hc1, hc2⟩ := List.getElem?_eq_some_iff.1 hc
                  have ci := fun w => hid (sIndexByte_any QBin.letters c w (by decide))
                  have hix := HIX.out c
                  generalize Lib.indexByte QBin.letters c = xi at *
                  cases hh : QBin.isSix c with
                  | true =>
                    rw [hh] at hix
                    have hxi : decide (xi < 0) = false := hix
                    have HS := hid (QBin.all_step _ _ _ _ hc hh HK.out)
                    clear hix HK HUB HUG hc hh
                    go_wp2_with (go_at_call 56; refine (ci _).out.mono ?_; rintro e w1 ⟨rfl, hw1⟩; have hw2 := hw1.symm; clear hw1; subst hw2)
                    refine ⟨⟨k + 1, by omega, by go_num, hid HS.out, rfl⟩, by simp [intOf]; omega⟩
                  | false =>
                    rw [hh] at hix
                    have hxi : decide (xi < 0) = true := hix
                    have HE := hid (HUB.out k c hc hh HK.out)
                    have q0 := HF1.out.c0
                    have q1 := HF1.out.c1
                    have q2 := HF1.out.f0
                    have q3 := HF1.out.f1
                    clear hix HK HUB HUG hc hh
                    go_wp2_with (go_at_call 56; refine (ci _).out.mono ?_; rintro e w1 ⟨rfl, hw1⟩; have hw2 := hw1.symm; clear hw1; subst hw2)
                    refine bodyPost_ret (v := .tuple #[.string (⟨#[]⟩), .agg #[.int .i64 3, .int .i64 ((k : Int) + 2)]]) (by simp [results, Tryz.results10, go_sem, q0, q1]) rfl ⟨?_, (HB1.setCell (Nat.le_refl _) _).setCell (Nat.le_refl _) _⟩
                    rw [HE.out]; rfl
                · obtain rfl : k = b.length := by omega
                  have hka := HK.out
                  rw [List.take_length] at hka
                  have HE := hid (HUG.out hka)
                  have HOK := hid (show ∀ c ∈ b, QBin.isSix c = true from List.all_eq_true.1 hka)
                  clear hka HK HUB HUG
                  go_wp2
                  rename World => W2
                  go_loopw [11, 97] (fun o i wr => RB6 b W2 o i wr) (fun _ i _ => b.length - (intOf i).toNat)
                  case atStart => exact ⟨0, by omega, rfl, rfl, Below.refl _ _⟩
                  case round =>
                    obtain ⟨k, hk, rfl, rfl, hb⟩ := hrel
                    have hB := hb.size
                    have hpl : (QBin.bits6F (b.take k)).length = 6 * k := by rw [QBin.bits6F_len, List.length_take]; omega
                    by_cases hkn : k < b.length
                    · obtain ⟨c, hc⟩ : ∃ c, b[k]? = some c := ⟨b[k], List.getElem?_eq_getElem hkn⟩
                      obtain ⟨hc1, hc2⟩ := List.getElem?_eq_some_iff.1 hc
                      have ci := fun w => hid (sIndexByte_any QBin.letters c w (by decide))
                      rw [QBin.six_of c (HOK.out c (List.mem_of_getElem? hc))] at ci
                      have hs6 := QBin.six_lt c
                      have HST := hid (QBin.bits6F_take b k c hc)
                      have cd := hid (show Calls Tryz.prog 60 #[.int .i64 (QBin.sixV c : Nat), .int .i64 2, .int .i64 6] wr _ from rdigits_any 2 6 (QBin.sixV c) wr (Or.inl rfl) (by omega) (by omega) (HDW.out _ (HB1.trans (hb.mono hB1))))
                      rw [QBin.pad_bits6 _ hs6] at cd
                      have hql : (QBin.bits6 (QBin.sixV c)).length = 6 := rfl
                      generalize QBin.bits6F (b.take k) = p at *
                      generalize QBin.bits6 (QBin.sixV c) = q at *
                      clear hc
                      go_wp2_with fail
                      refine (ci _).out.mono ?_
                      rintro e w1 ⟨rfl, hw1⟩
                      have hw2 := hw1.symm
                      clear hw1
                      subst hw2
                      go_wp2_with fail
                      refine cd.out.mono ?_
                      rintro e w1 ⟨rfl, hb1⟩
                      have HB2 := hid (hb.trans (hb1.mono hB)); clear hb1 hb
                      go_wp2
                      exact ⟨⟨k + 1, by omega, by rw [HST.out], by go_num, HB2.out⟩, by simp [intOf]; omega⟩
                    · obtain rfl : k = b.length := by omega
                      rw [List.take_length] at hpl ⊢
                      have HLT := hid (QBin.bits6F_lt b)
                      have HR1 := hid (QBin.eq_bits b.length b (Nat.le_refl _) HB4.out)
                      have HR2 := hid (QBin.bitR_len b)
                      have HRD := hid (show QBin.bitR b = (QBin.chop8 (6 * b.length / 8) (QBin.bits6F b), (QBin.bits6F b).drop (8 * (6 * b.length / 8))) from rfl)
                      have HB5 := hid (HB1.trans (hb.mono hB1))
                      have HF5 := hid (HF1.out.below hb)
                      generalize QBin.bits6F b = L at *
                      clear HOK hb
                      go_wp2
                      rename World => W3
                      go_loopw [11, 13] (fun t o wr => RB8 L W3 t o wr) (fun t _ _ => strLen t)
                      case atStart => exact ⟨0, 0, hid rfl, by omega, rfl, rfl, Below.refl _ _⟩
                      case round =>
                        obtain ⟨k, x, HX, hxr, rfl, rfl, hb⟩ := hrel
                        have hB := hb.size
                        have hdl : (L.drop x).length = L.length - x := List.length_drop
                        have hcl := QBin.chop8_len k L
                        have hk1 : k ≤ 1000 := by have := HX.out; omega
                        by_cases hlt : 8 ≤ L.length - x
                        · have h6l : ((L.drop x).take 8).length = 8 := by rw [List.length_take]; omega
                          have h6d : ∀ c ∈ (L.drop x).take 8, digV c < 2 := fun c hc => HLT.out c (List.mem_of_mem_drop (List.mem_of_mem_take hc))
                          have HSN := hid (show QBin.chop8 (k + 1) L = QBin.chop8 k L ++ [UInt8.ofNat (valD 2 ((L.drop x).take 8))] by rw [QBin.chop8_succ, HX.out])
                          have cp := fun w => hid (pint_2 ((L.drop x).take 8) w (by omega) (by omega) h6d)
                          have hV : valD 2 ((L.drop x).take 8) < 256 := by
                            have := valD_lt 2 (by omega) ((L.drop x).take 8) h6d 8 (by omega)
                            rw [List.take_of_length_le (by omega)] at this
                            exact this
                          have HDR := hid (show (L.drop x).drop 8 = L.drop (x + 8) by rw [List.drop_drop])
                          have HX2 := hid (show x + 8 = 8 * (k + 1) by have := HX.out; omega)
                          have cv1 := conv1 (P := Tryz.prog) 120 9 5 5 Tryz.underlying120 Tryz.underlying5 Tryz.underlying9
                          have hw1 : IntKind.u8.wrap ((valD 2 ((L.drop x).take 8) : Nat) : Int) = ((valD 2 ((L.drop x).take 8) : Nat) : Int) := by rw [IntKind.wrap_u8]; omega
                          have HBO := hid (show byteOf ((valD 2 ((L.drop x).take 8) : Nat) : Int) = UInt8.ofNat (valD 2 ((L.drop x).take 8)) from rfl)
                          generalize valD 2 ((L.drop x).take 8) = V at *
                          generalize QBin.chop8 k L = p at *
                          obtain ⟨d, hd⟩ : ∃ d, d = L.drop x := ⟨_, rfl⟩
                          rw [← hd] at HDR hdl cp h6l
                          rw [← hd]
                          clear hd h6d
                          go_wp2_with fail
                          refine (cp _).out.mono ?_
                          rintro e w1 ⟨rfl, hb1⟩
                          have HB2 := hid (hb.trans (hb1.mono hB)); clear hb1 hb
                          go_wp2
                          exact ⟨⟨k + 1, x + 8, hid HX2.out, by omega, by rw [List.take_of_length_le (by omega), HDR.out], by rw [HSN.out, HBO.out], HB2.out.alloc HB2.out.size _⟩, by simp [strLen, bs_size, List.length_drop, List.length_take]; omega⟩
                        · have hk6 : 6 * b.length / 8 = k := by have := HX.out; omega
                          have F9 := HF5.out.below hb
                          have HB3 := hid (HB5.out.trans (hb.mono HB5.out.size))
                          have hrd := HRD.out
                          rw [hk6, ← HX.out] at hrd
                          have hr1 := HR1.out
                          have hr2 := HR2.out
                          rw [hrd] at hr1 hr2
                          have hr2 : (L.drop x).length = 6 * b.length % 8 := hr2
                          have hb4 := HB4.out
                          have hl4 : (L.drop x).length ≤ 4 := by omega
                          have c49 := fun w => hid (has49_any (L.drop x) w)
                          have hoe : QBin.chop8 k L = (QBin.outsP b).1 := hr1.1
                          have hmem : 49 ∈ L.drop x ↔ (QBin.outsP b).2 ≠ 0 := hr1.2
                          rw [hoe] at hcl ⊢
                          clear hr1 hrd hoe HRD HR1 HR2 hr2
                          generalize L.drop x = d at *
                          by_cases h49 : 49 ∈ d
                          · have HE2 := hid (show binP s = ([], 3, ((b.length + 1 : Nat) : Int)) by rw [HE.out, if_pos (hmem.1 h49)])
                            rw [decide_eq_true h49] at c49
                            have q0 := F9.c0
                            have q1 := F9.c1
                            have q2 := F9.f0
                            have q3 := F9.f1
                            clear h49 hmem HE F9
                            go_wp2_with fail
                            refine (c49 _).out.mono ?_
                            rintro e w1 ⟨rfl, hw1⟩
                            have hw2 := hw1.symm
                            clear hw1
                            subst hw2
                            go_wp2
                            refine bodyPost_ret (v := .tuple #[.string (⟨#[]⟩), .agg #[.int .i64 3, .int .i64 ((b.length : Int) + 1)]]) (by simp [results, Tryz.results10, go_sem, q0, q1]) rfl ⟨?_, (HB3.out.setCell (Nat.le_refl _) _).setCell (Nat.le_refl _) _⟩
                            rw [HE2.out]; rfl
                          · have HE2 := hid (show binP s = ((QBin.outsP b).1, 0, -1) by rw [HE.out, if_neg (fun h => h49 (hmem.2 h))])
                            rw [decide_eq_false h49] at c49
                            clear h49 hmem HE
                            go_wp2_with fail
                            refine (c49 _).out.mono ?_
                            rintro e w1 ⟨rfl, hw1⟩
                            have hw2 := hw1.symm
                            clear hw1
                            subst hw2
                            go_wp2_with (go_at_call 58; refine (cgood _).out.mono ?_; rintro e w9 ⟨rfl, hb9⟩; have F9 := F9.below hb9; have q0 := F9.c0; have q1 := F9.c1; have q2 := F9.f0; have q3 := F9.f1; clear F9)
                            refine bodyPost_ret (v := .tuple #[.string (bs (QBin.outsP b).1), .agg #[.int .i64 0, .int .i64 (-1)]]) (by simp [results, Tryz.results10, go_sem, q0, q1]) rfl ⟨?_, ((HB3.out.trans (hb9.mono HB3.out.size)).setCell (Nat.le_refl _) _).setCell (Nat.le_refl _) _⟩
                            rw [HE2.out]; rfl
          · have hpi : (((r.length : Int) % 4) != 0) = true := by simp; omega
            have HE := hid (show binP s = ([], 7, -1) by rw [HE0.out]; unfold QBin.unbaseP; rw [if_pos hm4])
            clear HE0 hm4
            go_wp2_with (go_at_call 54; refine (cbare _ _).out.mono ?_; rintro e w9 ⟨rfl, hb9⟩; have F9 := HF1.out.below hb9; have q0 := F9.c0; have q1 := F9.c1; have q2 := F9.f0; have q3 := F9.f1; clear F9)
            refine bodyPost_ret (v := .tuple #[.string (⟨#[]⟩), .agg #[.int .i64 7, .int .i64 (-1)]]) (by simp [results, Tryz.results10, go_sem, q0, q1]) rfl ⟨?_, ((HB1.trans (hb9.mono HB1.size)).setCell (Nat.le_refl _) _).setCell (Nat.le_refl _) _⟩
            rw [HE.out]; rfl
        · have hnb : (t == [48, 98]) = false := beq_eq_false_iff_ne.2 hbb
          have HE := hid (show binP s = ([], 3, -1) by
            rw [HB.out]
            by_cases ha : a = 48
            · rw [if_neg (show ¬ a ≠ 48 from fun h => h ha), if_neg (fun h => hx (LX1.2 ⟨ha, h⟩)), if_neg (fun h => hbb (LX2.2 ⟨ha, h⟩))]
            · rw [if_pos (show a ≠ 48 from ha)])
          clear LX1 LX2 HB hx hbb
          go_wp2_with (go_at_call 54; refine (cbare _ _).out.mono ?_; rintro e w9 ⟨rfl, hb9⟩; have F9 := HF1.out.below hb9; have q0 := F9.c0; have q1 := F9.c1; have q2 := F9.f0; have q3 := F9.f1; clear F9)
          refine bodyPost_ret (v := .tuple #[.string (⟨#[]⟩), .agg #[.int .i64 3, .int .i64 (-1)]]) (by simp [results, Tryz.results10, go_sem, q0, q1]) rfl ⟨?_, ((HB1.trans (hb9.mono HB1.size)).setCell (Nat.le_refl _) _).setCell (Nat.le_refl _) _⟩
          rw [HE.out]; rfl
end
end Go.Proofs.YtejbigoacknfoaaGreatDoor
