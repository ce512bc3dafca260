/- Bytes in Base64, by the program. -/
import Derived.Test.YtejbigoacknfoaaGreatDoorOwnC
import Derived.Test.YtejbigoacknfoaaGreatDoorBinRead
set_option linter.unusedSectionVars false
set_option linter.unusedSimpArgs false
set_option linter.unusedVariables false
namespace Go.Proofs.YtejbigoacknfoaaGreatDoor
open Go Go.RowKit
set_option linter.unusedVariables false
set_option linter.unusedSectionVars false
set_option linter.unusedSimpArgs false
set_option maxRecDepth 100000
def byteAt (q : List UInt8) (j : Nat) : UInt8 := q.getD j 0
/-- the number of the first bytes of three -/
def partN (q : List UInt8) : Nat → Nat
  | 0 => 0
  | i + 1 => partN q i * 256 + (byteAt q i).toNat
theorem partN_3 (q : List UInt8) : partN q 3 = QBin.num3 q := by simp [partN, QBin.num3, byteAt]; omega
theorem partN_lt (q : List UInt8) (i : Nat) : partN q i < 256 ^ i := by
  induction i with
  | zero => simp [partN]
  | succ i ih =>
    have := (byteAt q i).toNat_lt
    rw [partN, Nat.pow_succ]
    omega
theorem or_next (n c : Nat) (hn : n < 65536) (hc : c < 256) : bits .or .i64 ((n : Int) * 256) (c : Int) = ((n * 256 + c : Nat) : Int) := by
  have h1 : n * 256 ||| c = n * 256 + c := by
    have := Nat.shiftLeft_add_eq_or_of_lt (i := 8) (b := c) (by omega) n
    rw [Nat.shiftLeft_eq] at this
    exact this.symm
  have h2 : (BitVec.ofInt 64 ((n : Int) * 256) ||| BitVec.ofInt 64 (c : Int)).toNat = n * 256 + c := by
    rw [BitVec.toNat_or, BitVec.toNat_ofInt, BitVec.toNat_ofInt, ← h1]
    congr 1 <;> omega
  unfold bits
  show IntKind.i64.wrap (((BitVec.ofInt 64 ((n : Int) * 256) ||| BitVec.ofInt 64 (c : Int)).toNat : Nat) : Int) = _
  rw [h2, IntKind.wrap_i64]; omega
theorem let_get (j : Nat) (h : j < QBin.letters.length) : QBin.letters[j] = QBin.letN j := by unfold QBin.letN; simp [List.getD, h]
def RGrp (l : List UInt8) (w : World) (v a : Value) (wr : World) : Prop :=
  ∃ k x : Nat, Hid (x = 3 * k) ∧ x ≤ l.length + 2 ∧ a = .int .i64 (x : Int) ∧ OwnB wr w.heap.size 5 v ([48, 98] ++ QBin.grps k l) ∧ Below w.heap.size w wr
def RPart (q : List UInt8) (W : World) (n i : Value) (wr : World) : Prop :=
  ∃ j : Nat, j ≤ 3 ∧ n = .int .i64 (partN q j : Nat) ∧ i = .int .i64 (j : Nat) ∧ wr = W
def RLet (p g : List UInt8) (B : Nat) (W : World) (v i : Value) (wr : World) : Prop :=
  ∃ j : Nat, j ≤ 4 ∧ OwnB wr B 5 v (p ++ g.take j) ∧ i = .int .i64 (j : Nat) ∧ Below B W wr
set_option maxHeartbeats 4000000 in
theorem pbase_any (l : List UInt8) (w : World) (hl : l.length ≤ 1000) :
    Calls Tryz.prog 14 #[.string (bs l)] w fun e w' => e = .returned (.string (bs (QBin.prog64 l))) ∧ Below w.heap.size w w' := by
  have hdl : (⟨#[65, 66, 67, 68, 69, 70, 71, 72, 73, 74, 75, 76, 77, 78, 79, 80, 81, 82, 83, 84, 85, 86, 87, 88, 89, 90, 97, 98, 99, 100, 101, 102, 103, 104, 105, 106, 107, 108, 109, 110, 111, 112, 113, 114, 115, 116, 117, 118, 119, 120, 121, 122, 48, 49, 50, 51, 52, 53, 54, 55, 56, 57, 43, 47]⟩ : ByteArray) = bs QBin.letters := rfl
  have hdn : QBin.letters.length = 64 := rfl
  have kc := fun (w : World) (C : Array Value) (n c : Nat) => Lib.run_convert_bytes_const (P := Tryz.prog) w 120 5 C n c Tryz.underlying120 Tryz.underlying5
  go_enter Tryz.func14, Tryz.ntmps14
  go_wp2
  go_loopw [3, 4] (fun v a wr => RGrp l w v a wr) (fun _ a _ => l.length + 3 - (intOf a).toNat)
  case atStart => exact ⟨0, 0, hid rfl, by omega, rfl, ownB_mark w w.heap.size _ [48, 98] 2 (2, 3) rfl rfl (Nat.le_refl _) (by simp), (Below.refl _ _).alloc (Nat.le_refl _) _⟩
  case round =>
    obtain ⟨k, x, HX, hk, rfl, hown, hb⟩ := hrel
    have hB := hb.size
    have hpl : ([48, 98] ++ QBin.grps k l).length = 2 + 4 * k := by rw [List.length_append, QBin.grps_len]; rfl
    by_cases hkn : x < l.length
    · have HST := hid (show ([48, 98] ++ QBin.grps k l) ++ QBin.grp (l.drop x) = [48, 98] ++ QBin.grps (k + 1) l by rw [QBin.grps_succ, List.append_assoc, HX.out])
      have hkl : k ≤ 1000 := by have := HX.out; omega
      have HO := hid hown
      clear hown
      generalize [48, 98] ++ QBin.grps k l = p at *
      obtain ⟨q, hq⟩ : ∃ q, q = l.drop x := ⟨_, rfl⟩
      have hql : q.length = l.length - x := by rw [hq, List.length_drop]
      have HQ := hid (show ∀ j : Nat, ∀ h : x + j < l.length, l[x + j] = byteAt q j from fun j h => by
        rw [hq, byteAt, List.getD, List.getElem?_drop, List.getElem?_eq_getElem h]; rfl)
      have HQ0 := hid (show ∀ j : Nat, ¬ x + j < l.length → (byteAt q j).toNat = 0 from fun j h => by
        rw [byteAt, List.getD, List.getElem?_eq_none (by omega)]; rfl)
      rw [← hq] at HST
      clear hq
      go_wp2
      rename World => W2
      go_loopw [5, 17] (fun n i wr => RPart q W2 n i wr) (fun _ i _ => 3 - (intOf i).toNat)
      case atStart => exact ⟨0, by omega, rfl, rfl, rfl⟩
      case round =>
        obtain ⟨j, hj, rfl, rfl, rfl⟩ := hrel
        by_cases hj3 : j < 3
        · have hpl2 := partN_lt q j
          have hp3 : partN q j < 65536 := Nat.lt_of_lt_of_le hpl2 (Nat.pow_le_pow_right (n := 256) (show 0 < 256 by omega) (show j ≤ 2 by omega))
          have hc256 := (byteAt q j).toNat_lt
          have hw1 : IntKind.i64.wrap ((partN q j : Int) * 256) = (partN q j : Int) * 256 := by rw [IntKind.wrap_i64]; omega
          have HN := hid (show partN q (j + 1) = partN q j * 256 + (byteAt q j).toNat from rfl)
          have hor := or_next (partN q j) _ hp3 hc256
          by_cases hlt : x + j < l.length
          · have hg := HQ.out j hlt
            have HG0 := HQ0
            have hwc : IntKind.i64.wrap ((byteAt q j).toNat : Int) = ((byteAt q j).toNat : Int) := by rw [IntKind.wrap_i64]; omega
            clear HQ0 hpl2
            go_wp2
            refine ⟨⟨j + 1, by omega, by rw [HN.out]; first | rfl | rw [Int.natCast_add, Int.natCast_mul]; rfl, by go_num, rfl⟩, by simp [intOf]; omega⟩
          · have hg := HQ0.out j hlt
            clear HQ0 hpl2
            go_wp2
            refine ⟨⟨j + 1, by omega, by rw [HN.out, hg]; rfl, by go_num, rfl⟩, by simp [intOf]; omega⟩
        · obtain rfl : j = 3 := by omega
          rw [partN_3]
          have hN : QBin.num3 q < 16777216 := by have := partN_lt q 3; rw [partN_3] at this; exact this
          have HG := hid (show QBin.grp q = [QBin.letN (QBin.num3 q / 262144 % 64), QBin.letN (QBin.num3 q / 4096 % 64), if q.length < 2 then 61 else QBin.letN (QBin.num3 q / 64 % 64), if q.length < 3 then 61 else QBin.letN (QBin.num3 q % 64)] from rfl)
          generalize QBin.num3 q = N at *
          generalize QBin.grp q = g at *
          clear HQ HQ0
          go_wp2
          rename World => W3
          go_loopw [3, 37] (fun v i wr => RLet p g w.heap.size W3 v i wr) (fun _ i _ => 4 - (intOf i).toNat)
          case atStart => exact ⟨0, by omega, by simpa using HO.out, rfl, Below.refl _ _⟩
          case round =>
            obtain ⟨j, hj, hown2, rfl, hb2⟩ := hrel
            have hB2 := hb2.size
            have HO2 := hid hown2
            clear hown2
            by_cases hj4 : j < 4
            · rcases (show j = 0 ∨ j = 1 ∨ j = 2 ∨ j = 3 by omega) with rfl | rfl | rfl | rfl
              · have hA : bits .and .i64 ((N : Int) / 262144) 63 = (N : Int) / 262144 % 64 := by simpa using i64_mask ((N : Int) / 262144) 63 6 rfl (by omega)
                have hd1 : (0 : Int) ≤ (N : Int) / 262144 % 64 := by omega
                have hd2 : (N : Int) / 262144 % 64 < 64 := by omega
                have e1 : ((N : Int) / 262144 % 64).toNat = N / 262144 % 64 := by omega
                have hx : ¬ (l.length : Int) < (x : Int) := by omega
                go_wp2_with (at_builtin; refine list_append_ownB rfl (.tmp 53) (.tmp 55) 120 rfl w.heap.size 5 Tryz.underlying120 infoB8 u3 (p ++ g.take 0) rfl (HO2.out.alloc _) ⟨wr.heap.size, 0, none⟩ 1 1 [QBin.letN (N / 262144 % 64)] rfl rfl (cells_new1 wr _ _ _ (by simp only [e1, let_get])) (by simp; omega) (by simp; omega) ?_; intro v3 w3 hown3 hgrow3)
                all_goals
                  refine ⟨?_, by simp [intOf]⟩
                  repeat' apply Exists.intro
                  refine And.intro ?rl ?eqs
                  case eqs => repeat' first | exact rfl | refine ⟨rfl, ?_⟩
                  case rl =>
                    refine ⟨1, by omega, ?_, by first | rfl | go_num, below_appendB (hb2.alloc (Nat.le_trans hB hB2) _) (HO2.out.alloc _) hgrow3 (by simp; omega)⟩
                    rw [show p ++ g.take 1 = (p ++ g.take 0) ++ [QBin.letN (N / 262144 % 64)] by rw [HG.out]; simp]
                    exact hown3
              · have hA : bits .and .i64 ((N : Int) / 4096) 63 = (N : Int) / 4096 % 64 := by simpa using i64_mask ((N : Int) / 4096) 63 6 rfl (by omega)
                have hd1 : (0 : Int) ≤ (N : Int) / 4096 % 64 := by omega
                have hd2 : (N : Int) / 4096 % 64 < 64 := by omega
                have e1 : ((N : Int) / 4096 % 64).toNat = N / 4096 % 64 := by omega
                have hx : ¬ (l.length : Int) < (x : Int) + 1 := by omega
                go_wp2_with (at_builtin; refine list_append_ownB rfl (.tmp 53) (.tmp 55) 120 rfl w.heap.size 5 Tryz.underlying120 infoB8 u3 (p ++ g.take 1) rfl (HO2.out.alloc _) ⟨wr.heap.size, 0, none⟩ 1 1 [QBin.letN (N / 4096 % 64)] rfl rfl (cells_new1 wr _ _ _ (by simp only [e1, let_get])) (by simp; omega) (by simp; omega) ?_; intro v3 w3 hown3 hgrow3)
                all_goals
                  refine ⟨?_, by simp [intOf]⟩
                  repeat' apply Exists.intro
                  refine And.intro ?rl ?eqs
                  case eqs => repeat' first | exact rfl | refine ⟨rfl, ?_⟩
                  case rl =>
                    refine ⟨2, by omega, ?_, by first | rfl | go_num, below_appendB (hb2.alloc (Nat.le_trans hB hB2) _) (HO2.out.alloc _) hgrow3 (by simp; omega)⟩
                    rw [show p ++ g.take 2 = (p ++ g.take 1) ++ [QBin.letN (N / 4096 % 64)] by rw [HG.out]; simp]
                    exact hown3
              · have hA : bits .and .i64 ((N : Int) / 64) 63 = (N : Int) / 64 % 64 := by simpa using i64_mask ((N : Int) / 64) 63 6 rfl (by omega)
                have hd1 : (0 : Int) ≤ (N : Int) / 64 % 64 := by omega
                have hd2 : (N : Int) / 64 % 64 < 64 := by omega
                have e1 : ((N : Int) / 64 % 64).toNat = N / 64 % 64 := by omega
                by_cases hq2 : q.length < 2
                · have hx : (l.length : Int) < (x : Int) + 2 := by omega
                  go_wp2_with (at_builtin; refine list_append_ownB rfl (.tmp 53) (.tmp 55) 120 rfl w.heap.size 5 Tryz.underlying120 infoB8 u3 (p ++ g.take 2) rfl (HO2.out.alloc _) ⟨wr.heap.size, 0, none⟩ 1 1 [61] rfl rfl (cells_new1 wr _ _ _ rfl) (by simp; omega) (by simp; omega) ?_; intro v3 w3 hown3 hgrow3)
                  all_goals
                    refine ⟨?_, by simp [intOf]⟩
                    repeat' apply Exists.intro
                    refine And.intro ?rl ?eqs
                    case eqs => repeat' first | exact rfl | refine ⟨rfl, ?_⟩
                    case rl =>
                      refine ⟨3, by omega, ?_, by first | rfl | go_num, below_appendB (hb2.alloc (Nat.le_trans hB hB2) _) (HO2.out.alloc _) hgrow3 (by simp; omega)⟩
                      rw [show p ++ g.take 3 = (p ++ g.take 2) ++ [61] by rw [HG.out]; simp [hq2]]
                      exact hown3
                · have hx : ¬ (l.length : Int) < (x : Int) + 2 := by omega
                  go_wp2_with (at_builtin; refine list_append_ownB rfl (.tmp 53) (.tmp 55) 120 rfl w.heap.size 5 Tryz.underlying120 infoB8 u3 (p ++ g.take 2) rfl (HO2.out.alloc _) ⟨wr.heap.size, 0, none⟩ 1 1 [QBin.letN (N / 64 % 64)] rfl rfl (cells_new1 wr _ _ _ (by simp only [e1, let_get])) (by simp; omega) (by simp; omega) ?_; intro v3 w3 hown3 hgrow3)
                  all_goals
                    refine ⟨?_, by simp [intOf]⟩
                    repeat' apply Exists.intro
                    refine And.intro ?rl ?eqs
                    case eqs => repeat' first | exact rfl | refine ⟨rfl, ?_⟩
                    case rl =>
                      refine ⟨3, by omega, ?_, by first | rfl | go_num, below_appendB (hb2.alloc (Nat.le_trans hB hB2) _) (HO2.out.alloc _) hgrow3 (by simp; omega)⟩
                      rw [show p ++ g.take 3 = (p ++ g.take 2) ++ [QBin.letN (N / 64 % 64)] by rw [HG.out]; simp [hq2]]
                      exact hown3
              · have hA : bits .and .i64 ((N : Int)) 63 = (N : Int) % 64 := by simpa using i64_mask ((N : Int)) 63 6 rfl (by omega)
                have hd1 : (0 : Int) ≤ (N : Int) % 64 := by omega
                have hd2 : (N : Int) % 64 < 64 := by omega
                have e1 : ((N : Int) % 64).toNat = N % 64 := by omega
                by_cases hq2 : q.length < 3
                · have hx : (l.length : Int) < (x : Int) + 3 := by omega
                  go_wp2_with (at_builtin; refine list_append_ownB rfl (.tmp 53) (.tmp 55) 120 rfl w.heap.size 5 Tryz.underlying120 infoB8 u3 (p ++ g.take 3) rfl (HO2.out.alloc _) ⟨wr.heap.size, 0, none⟩ 1 1 [61] rfl rfl (cells_new1 wr _ _ _ rfl) (by simp; omega) (by simp; omega) ?_; intro v3 w3 hown3 hgrow3)
                  all_goals
                    refine ⟨?_, by simp [intOf]⟩
                    repeat' apply Exists.intro
                    refine And.intro ?rl ?eqs
                    case eqs => repeat' first | exact rfl | refine ⟨rfl, ?_⟩
                    case rl =>
                      refine ⟨4, by omega, ?_, by first | rfl | go_num, below_appendB (hb2.alloc (Nat.le_trans hB hB2) _) (HO2.out.alloc _) hgrow3 (by simp; omega)⟩
                      rw [show p ++ g.take 4 = (p ++ g.take 3) ++ [61] by rw [HG.out]; simp [hq2]]
                      exact hown3
                · have hx : ¬ (l.length : Int) < (x : Int) + 3 := by omega
                  go_wp2_with (at_builtin; refine list_append_ownB rfl (.tmp 53) (.tmp 55) 120 rfl w.heap.size 5 Tryz.underlying120 infoB8 u3 (p ++ g.take 3) rfl (HO2.out.alloc _) ⟨wr.heap.size, 0, none⟩ 1 1 [QBin.letN (N % 64)] rfl rfl (cells_new1 wr _ _ _ (by simp only [e1, let_get])) (by simp; omega) (by simp; omega) ?_; intro v3 w3 hown3 hgrow3)
                  all_goals
                    refine ⟨?_, by simp [intOf]⟩
                    repeat' apply Exists.intro
                    refine And.intro ?rl ?eqs
                    case eqs => repeat' first | exact rfl | refine ⟨rfl, ?_⟩
                    case rl =>
                      refine ⟨4, by omega, ?_, by first | rfl | go_num, below_appendB (hb2.alloc (Nat.le_trans hB hB2) _) (HO2.out.alloc _) hgrow3 (by simp; omega)⟩
                      rw [show p ++ g.take 4 = (p ++ g.take 3) ++ [QBin.letN (N % 64)] by rw [HG.out]; simp [hq2]]
                      exact hown3
            · obtain rfl : j = 4 := by omega
              have HS2 := hid (show p ++ g.take 4 = [48, 98] ++ QBin.grps (k + 1) l by rw [← HST.out, List.take_of_length_le (by rw [HG.out]; simp)])
              go_wp2
              all_goals
                refine ⟨⟨k + 1, x + 3, hid (by have := HX.out; omega), by omega, by go_num, by rw [← HS2.out]; exact HO2.out, hb.trans hb2⟩, by simp [intOf]; omega⟩
    · have HE := hid (show k = (l.length + 2) / 3 by have := HX.out; omega)
      have hcv := conv_back (P := Tryz.prog) 120 9 5 Tryz.underlying120 Tryz.underlying5 Tryz.underlying9 wr w.heap.size _ _ hown (by simp)
      have HP := hid (show [48, 98] ++ QBin.grps k l = QBin.prog64 l by rw [HE.out]; rfl)
      clear hown
      generalize [48, 98] ++ QBin.grps k l = p at *
      go_wp2
      go_ret
      exact ⟨by rw [← HP.out]; rfl, hb⟩
end Go.Proofs.YtejbigoacknfoaaGreatDoor
