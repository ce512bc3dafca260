/- The number that a value is: by the program. -/
import Derived.Test.YtbimlijhgeajjaaGreatDoorNumeral
import Derived.Test.YtbimlijhgeajjaaGreatDoorMono
import Derived.Test.YtbimlijhgeajjaaGreatDoorGuard
import Derived.Deep.QuietTactic
import Derived.BigQuiet
import Derived.Test.YtbimlijhgeajjaaGreatDoorPairKey
import Derived.Test.YtbimlijhgeajjaaGreatDoorRange
import Derived.Test.YtbimlijhgeajjaaGreatDoorBase
import Derived.Maps.OwnSet
import Derived.Maps.Views
import Derived.Test.YtbimlijhgeajjaaGreatDoorChecked
import Derived.StringKeys
set_option linter.unusedSectionVars false
set_option linter.unusedSimpArgs false
set_option linter.unusedVariables false
namespace Go.Proofs.YtbimlijhgeajjaaGreatDoor
open Go Go.RowKit
set_option linter.unusedVariables false
set_option linter.unusedSectionVars false
set_option linter.unusedSimpArgs false
set_option maxRecDepth 100000
theorem zeroSet (w : World) : (zeroValue 335).run Tryz.prog w = .ok (.agg (Array.replicate 256 (.bool false))) w := by kernel_rfl
theorem cutP_any (l : List UInt8) (w : World) : Calls Tryz.prog 150 #[.string (bs l), .string (bs [48, 120])] w fun e w' => e = .returned (.tuple #[.string (bs (if [48, 120].isPrefixOf l = true then l.drop 2 else l)), .bool ([48, 120].isPrefixOf l)]) ∧ w = w' := by
  refine (Tryz.strings_CutPrefix (bs l) (bs [48, 120]) w).mono ?_
  rintro e w' ⟨rfl, rfl⟩
  refine ⟨?_, rfl⟩
  simp [bs, Lib.trimPrefix, Lib.hasPrefix]
theorem indexAny_none (l : List UInt8) (h : (l.all fun c => decide (digV c < 16)) = true) : Lib.indexAny l [95, 43, 45] = -1 := by
  induction l with
  | nil => rfl
  | cons c l ih =>
    rw [List.all_cons, Bool.and_eq_true] at h
    have hd := digit_plain c (of_decide_eq_true h.1)
    rw [Lib.indexAny, ih h.2]
    have : [95, 43, 45].contains c = false := by simp [hd.1, hd.2.1, hd.2.2]
    rw [this]; rfl
theorem cany_ok (l : List UInt8) (w : World) (hl : l.length ≤ 1000000) (h : (l.all fun c => decide (digV c < 16)) = true) :
    Calls Tryz.prog 152 #[.string (bs l), .string (bs [95, 43, 45])] w fun e w' => e = .returned (.bool false) ∧ Below w.heap.size w w' := by
  refine (Tryz.strings_ContainsAny zeroSet (bs l) (bs [95, 43, 45]) w (by rw [bs_size]; omega) (by rw [bs_size]; simp) ?_ ?_).mono ?_
  · intro j b hb
    have hm : b ∈ l := by
      rw [show (bs l).data.toList = l by simp [bs]] at hb
      exact List.mem_of_getElem? hb
    exact (low_digit b (of_decide_eq_true (List.all_eq_true.1 h b hm))).2
  · intro j b hb
    rw [show (bs [95, 43, 45]).data.toList = [95, 43, 45] by simp [bs]] at hb
    have hm := List.mem_of_getElem? hb
    simp only [List.mem_cons, List.not_mem_nil, or_false] at hm
    rcases hm with rfl | rfl | rfl <;> decide
  · rintro e w' ⟨rfl, hb⟩
    refine ⟨?_, hb⟩
    rw [show (bs l).data.toList = l by simp [bs], show (bs [95, 43, 45]).data.toList = [95, 43, 45] by simp [bs], Lib.containsAny, indexAny_none l h]
    rfl
theorem puS_digits (b : Nat) (l : List UInt8) (h : (puS b 1099511627775 l).2 = 0) : (l.all fun c => decide (digV c < b)) = true ∧ l ≠ [] ∧ numB b l = some (puS b 1099511627775 l).1 := by
  have hn : numB b l = some (puS b 1099511627775 l).1 := by unfold numB; rw [if_pos h]
  refine ⟨?_, ?_, hn⟩
  · cases hq : (l.all fun c => decide (digV c < b)) with
    | true => rfl
    | false => rw [numB_not b l hq] at hn; cases hn
  · rintro rfl
    simp [puS] at h
def NumPost (o : Option Nat) (w : World) (e : Ending) (w' : World) : Prop :=
  ∃ n : Int, e = .returned (.tuple #[.int .i64 n, .bool o.isSome]) ∧ (∀ x, o = some x → n = (x : Int)) ∧ Below w.heap.size w w'
set_option maxHeartbeats 4000000 in
theorem knumber_any (l : List UInt8) (w : World) (hl : l.length ≤ 1000000) (hev : EV w) :
    Calls Tryz.prog 115 #[.string (bs l)] w fun e w' => NumPost (numL l) w e w' := by
  have cc := fun w => hid (cutP_any l w)
  have h22 : (⟨#[48, 120]⟩ : ByteArray) = bs [48, 120] := rfl
  have h3 : (⟨#[95, 43, 45]⟩ : ByteArray) = bs [95, 43, 45] := rfl
  cases hp : [48, 120].isPrefixOf l
  case true =>
    have hnl : numL l = numB 16 (l.drop 2) := by
      unfold numL
      rw [if_pos (of_decide_eq_true ((pre_take l).symm.trans hp))]
    rw [hp] at cc
    rw [hnl]
    simp only [if_true] at cc
    obtain ⟨t, ht⟩ : ∃ t, l.drop 2 = t := ⟨_, rfl⟩
    have htl : t.length ≤ 1000000 := by rw [← ht, List.length_drop]; omega
    rw [ht] at cc ⊢
    have cs := hid (spu_any 16 16 t w htl hev (fun w => pu_16_40 t w (by omega)))
    have hle := puS_le 16 1099511627775 t
    have hd := puS_digits 16 t
    have hno : (puS 16 1099511627775 t).2 ≠ 0 → numB 16 t = none := fun h => by unfold numB; rw [if_neg h]
    have ca := fun h w => hid (cany_ok t w htl h)
    unfold SpPost at cs
    unfold NumPost
    generalize puS 16 1099511627775 t = R at *
    obtain ⟨x, k⟩ := R
    simp only at cs hle hd hno
    have HD := hid hd; have HNO := hid hno
    clear hd hno hnl hp hev
    go_enter Tryz.func115, Tryz.ntmps115
    rw [h22]
    go_wp2_with fail
    refine (cc _).out.mono ?_
    rintro e w1 ⟨rfl, rfl⟩
    go_wp2_with fail
    refine cs.out.mono ?_
    rintro e w2 ⟨ev, rfl, ⟨hk, rfl⟩ | ⟨hk, N, rfl⟩, hb2⟩
    · obtain ⟨h1, h2, h4⟩ := HD.out hk
      have ca := fun w => hid ((ca h1 w).out)
      have HNS := hid h4
      clear h1 h2 h4 hk
      go_wp2_with fail
      refine (ca _).out.mono ?_
      rintro e w3 ⟨rfl, hb3⟩
      go_wp2
      go_ret2
      rw [HNS.out]
      exact ⟨_, rfl, fun y hy => by cases hy; rfl, hb2.trans (hb3.mono hb2.size)⟩
    · have HN := hid (HNO.out hk)
      clear hk ca
      go_wp2
      go_ret2
      rw [HN.out]
      exact ⟨_, rfl, fun y hy => (by cases hy), hb2⟩
  case false =>
    have hnl : numL l = if l ≠ [48] ∧ l[0]? = some 48 then none else numB 10 l := by
      unfold numL
      rw [if_neg (of_decide_eq_false ((pre_take l).symm.trans hp))]
    rw [hp] at cc
    rw [hnl]
    obtain ⟨O, hO⟩ : ∃ O, (if l ≠ [48] ∧ l[0]? = some 48 then none else numB 10 l) = O := ⟨_, rfl⟩
    rw [hO]
    have HOO := hid hO.symm
    clear hO
    simp only [Bool.false_eq_true, if_false] at cc
    have cs := hid (spu_any 10 10 l w hl hev (fun w => pu_10_40 l w (by omega)))
    have hle := puS_le 10 1099511627775 l
    have hd := puS_digits 10 l
    have hno : (puS 10 1099511627775 l).2 ≠ 0 → numB 10 l = none := fun h => by unfold numB; rw [if_neg h]
    have ca := fun h w => hid (cany_ok l w hl h)
    unfold SpPost at cs
    unfold NumPost
    generalize puS 10 1099511627775 l = R at *
    obtain ⟨x, k⟩ := R
    simp only at cs hle hd hno
    have HD := hid hd; have HNO := hid hno
    have h48 : (⟨#[48]⟩ : ByteArray) = bs [48] := rfl
    clear hd hno hnl hp hev
    go_enter Tryz.func115, Tryz.ntmps115
    rw [h22]
    go_wp2_with fail
    refine (cc _).out.mono ?_
    rintro e w1 ⟨rfl, rfl⟩
    go_wp2_with fail
    refine cs.out.mono ?_
    rintro e w2 ⟨ev, rfl, ⟨hk, rfl⟩ | ⟨hk, N, rfl⟩, hb2⟩
    · obtain ⟨h1, h2, h4⟩ := HD.out hk
      have h16 : (l.all fun c => decide (digV c < 16)) = true := List.all_eq_true.2 fun c hc => decide_eq_true (by have := of_decide_eq_true (List.all_eq_true.1 h1 c hc); omega)
      have ca := fun w => (ca h16 w).out
      have hlen := List.length_pos_iff.2 h2
      obtain ⟨y, hy⟩ : ∃ y, l[0]? = some y := ⟨l[0], List.getElem?_eq_getElem hlen⟩
      obtain ⟨hx1, hx2⟩ := List.getElem?_eq_some_iff.1 hy
      have HNS := hid h4
      clear h1 h2 h4 h16 hk
      have hmx : Tryz.prog.follows .mixedOrders = true := by kernel_rfl
      have hwx : IntKind.i64.wrap (x : Int) = (x : Int) := by rw [IntKind.wrap_i64]; omega
      have d1 : ∀ W : World, Below w2.heap.size w2 W → Hid (Calls Tryz.prog 152 #[.string (bs l), .string (bs [95, 43, 45])] W fun e w' => e = .returned (.bool false) ∧ Below w2.heap.size w2 w') := fun W hW => hid ((ca W).mono (by rintro e w' ⟨rfl, hb⟩; exact ⟨rfl, hW.trans (hb.mono hW.size)⟩))
      clear ca
      by_cases hl48 : l = [48]
      · have HNL := hid (show (if l ≠ [48] ∧ l[0]? = some 48 then none else numB 10 l) = some x by rw [if_neg (by simp [hl48]), HNS.out])
        have hbe : (l == [48]) = true := by rw [hl48]; rfl
        clear hl48 hy hx2
        go_wp2_with fail
        refine wpIn_wide (n := 4).1 ?_
        refine region_guard (aF := ?kAa) [(35, .int .u64 (x : Int)), (36, .int .i64 (x : Int)), (37, .nilIface), (38, .bool true), (39, .bool true), (40, .string (bs l)), (41, .bool false), (42, .bool true), (43, .bool true), (44, .bool true), (45, .string (bs l)), (46, .bool true), (47, .bool true), (48, undef), (49, undef), (50, undef), (51, .bool true), (52, .bool true), (2, .int .i64 (x : Int)), (3, .bool true)] (fun W => Below w2.heap.size w2 W) ?kBa hmx (by kernel_rfl) (by kernel_rfl) (Below.refl _ _).drew ?kCa ?kDa
        case kBa =>
          simp only [putAll, List.foldl_cons, List.foldl_nil, List.setIfInBounds_toArray, List.set_cons_zero, List.set_cons_succ]
          exact rfl
        case kCa =>
          refine ⟨?_, ?_, ?_, ?_, ?_, ?_, ?_, ?_, ?_, ?_, ?_, ?_, ?_, ?_, ?_, ?_, ?_, ?_, ?_, ?_, trivial⟩
          all_goals refine ⟨fun d hd => by simp at hd <;> (subst hd; simp), ?_⟩
          all_goals first
            | refine .inl ⟨by first | exact trivial | exact ⟨by simp, rfl⟩, fun W h => ⟨?_, ?_⟩⟩
            | refine .inr ⟨⟨by simp, rfl⟩, fun d hd => by simp at hd <;> (subst hd; rfl), fun W h f hf => by first | (simp [go_sem, Oper.about] at hf; done) | trivial⟩
            | refine .inr ⟨⟨by simp, rfl⟩, fun d hd => by simp at hd <;> (subst hd; rfl), fun W h f hf => trivial⟩
          all_goals first
            | (simp [go_sem, Oper.about]; done)
            | (simp [go_sem, Oper.about]; exact trivial)
            | skip
          all_goals first
            | (simp [OpInv, go_sem, h, hwx, hbe, h48, hlen]; done)
            | (simp [OpInv, go_sem]; refine callsIn_wide.2 ((d1 _ h).out.mono ?_); rintro e w' ⟨rfl, hb⟩; exact ⟨_, rfl, rfl, hb⟩)
            | skip
        case kDa =>
          intro W9 hW9
          gi_wp2
          go_wp2
          go_ret2
          rw [HOO.out, HNL.out]
          exact ⟨_, rfl, (fun z hz => by cases hz; rfl), hb2.trans (hW9.mono hb2.size)⟩
      · have hbe : (l == [48]) = false := beq_eq_false_iff_ne.2 hl48
        by_cases hy48 : y = 48
        · have HNL := hid (show (if l ≠ [48] ∧ l[0]? = some 48 then none else numB 10 l) = none by rw [if_pos ⟨hl48, by rw [hy, hy48]⟩])
          have hyx : l[0] = 48 := by rw [hx2, hy48]
          clear hl48 hy hx2
          go_wp2_with fail
          refine wpIn_wide (n := 4).1 ?_
          refine region_guard (aF := ?kAb) [(35, .int .u64 (x : Int)), (36, .int .i64 (x : Int)), (37, .nilIface), (38, .bool true), (39, .bool true), (40, .string (bs l)), (41, .bool false), (42, .bool true), (43, .bool true), (44, .bool true), (45, .string (bs l)), (46, .bool false), (47, .bool false), (48, .string (bs l)), (49, .int .u8 48), (50, .bool false), (51, .bool false), (52, .bool false), (2, .int .i64 (x : Int)), (3, .bool false)] (fun W => Below w2.heap.size w2 W) ?kBb hmx (by kernel_rfl) (by kernel_rfl) (Below.refl _ _).drew ?kCb ?kDb
          case kBb =>
            simp only [putAll, List.foldl_cons, List.foldl_nil, List.setIfInBounds_toArray, List.set_cons_zero, List.set_cons_succ]
            exact rfl
          case kCb =>
            refine ⟨?_, ?_, ?_, ?_, ?_, ?_, ?_, ?_, ?_, ?_, ?_, ?_, ?_, ?_, ?_, ?_, ?_, ?_, ?_, ?_, trivial⟩
            all_goals refine ⟨fun d hd => by simp at hd <;> (subst hd; simp), ?_⟩
            all_goals first
              | refine .inl ⟨by first | exact trivial | exact ⟨by simp, rfl⟩, fun W h => ⟨?_, ?_⟩⟩
              | refine .inr ⟨⟨by simp, rfl⟩, fun d hd => by simp at hd <;> (subst hd; rfl), fun W h f hf => by first | (simp [go_sem, Oper.about] at hf; done) | trivial⟩
              | refine .inr ⟨⟨by simp, rfl⟩, fun d hd => by simp at hd <;> (subst hd; rfl), fun W h f hf => trivial⟩
            all_goals first
              | (simp [go_sem, Oper.about]; done)
              | (simp [go_sem, Oper.about]; exact trivial)
              | skip
            all_goals first
              | (simp [OpInv, go_sem, h, hwx, hbe, h48, hlen, hyx]; done)
              | (simp [OpInv, go_sem]; refine callsIn_wide.2 ((d1 _ h).out.mono ?_); rintro e w' ⟨rfl, hb⟩; exact ⟨_, rfl, rfl, hb⟩)
              | skip
          case kDb =>
            intro W9 hW9
            gi_wp2
            go_wp2
            go_ret2
            rw [HOO.out, HNL.out]
            exact ⟨_, rfl, (fun z hz => by cases hz), hb2.trans (hW9.mono hb2.size)⟩
        · have HNL := hid (show (if l ≠ [48] ∧ l[0]? = some 48 then none else numB 10 l) = some x by rw [if_neg (by rw [hy]; simp [hy48]), HNS.out])
          have hyx : l[0] = y := hx2
          have hyn : ((y.toNat : Int) == 48) = false := by
            rw [beq_eq_false_iff_ne]
            intro e
            exact hy48 (UInt8.toNat_inj.1 (by show y.toNat = 48; omega))
          have hyn2 : ((y.toNat : Int) != 48) = true := by rw [bne, hyn]; rfl
          clear hl48 hy hx2
          go_wp2_with fail
          refine wpIn_wide (n := 4).1 ?_
          refine region_guard (aF := ?kAc) [(35, .int .u64 (x : Int)), (36, .int .i64 (x : Int)), (37, .nilIface), (38, .bool true), (39, .bool true), (40, .string (bs l)), (41, .bool false), (42, .bool true), (43, .bool true), (44, .bool true), (45, .string (bs l)), (46, .bool false), (47, .bool false), (48, .string (bs l)), (49, .int .u8 (y.toNat : Int)), (50, .bool true), (51, .bool true), (52, .bool true), (2, .int .i64 (x : Int)), (3, .bool true)] (fun W => Below w2.heap.size w2 W) ?kBc hmx (by kernel_rfl) (by kernel_rfl) (Below.refl _ _).drew ?kCc ?kDc
          case kBc =>
            simp only [putAll, List.foldl_cons, List.foldl_nil, List.setIfInBounds_toArray, List.set_cons_zero, List.set_cons_succ]
            exact rfl
          case kCc =>
            refine ⟨?_, ?_, ?_, ?_, ?_, ?_, ?_, ?_, ?_, ?_, ?_, ?_, ?_, ?_, ?_, ?_, ?_, ?_, ?_, ?_, trivial⟩
            all_goals refine ⟨fun d hd => by simp at hd <;> (subst hd; simp), ?_⟩
            all_goals first
              | refine .inl ⟨by first | exact trivial | exact ⟨by simp, rfl⟩, fun W h => ⟨?_, ?_⟩⟩
              | refine .inr ⟨⟨by simp, rfl⟩, fun d hd => by simp at hd <;> (subst hd; rfl), fun W h f hf => by first | (simp [go_sem, Oper.about] at hf; done) | trivial⟩
              | refine .inr ⟨⟨by simp, rfl⟩, fun d hd => by simp at hd <;> (subst hd; rfl), fun W h f hf => trivial⟩
            all_goals first
              | (simp [go_sem, Oper.about]; done)
              | (simp [go_sem, Oper.about]; exact trivial)
              | skip
            all_goals first
              | (simp [OpInv, go_sem, h, hwx, hbe, h48, hlen, hyx, hyn, hyn2]; done)
              | (simp [OpInv, go_sem]; refine callsIn_wide.2 ((d1 _ h).out.mono ?_); rintro e w' ⟨rfl, hb⟩; exact ⟨_, rfl, rfl, hb⟩)
              | skip
          case kDc =>
            intro W9 hW9
            gi_wp2
            go_wp2
            go_ret2
            rw [HOO.out, HNL.out]
            exact ⟨_, rfl, (fun z hz => by cases hz; rfl), hb2.trans (hW9.mono hb2.size)⟩
    · have HN := hid (show (if l ≠ [48] ∧ l[0]? = some 48 then none else numB 10 l) = none by rw [HNO.out hk]; split <;> rfl)
      clear hk ca
      go_wp2
      go_quiet (fail)
      go_wp2
      go_ret2
      rw [HOO.out, HN.out]
      exact ⟨_, rfl, fun y hy => (by cases hy), below_drewN hb2 _⟩
end Go.Proofs.YtbimlijhgeajjaaGreatDoor

namespace Go.Proofs.YtbimlijhgeajjaaGreatDoor
open Go Go.RowKit
set_option linter.unusedVariables false
set_option linter.unusedSectionVars false
set_option linter.unusedSimpArgs false
set_option maxRecDepth 100000
section
variable (l : List UInt8) (low high : Int) (w : World) (hl : l.length ≤ 1000000) (h0 : -9223372036854775808 ≤ low) (h1 : low ≤ 9223372036854775807) (g0 : -9223372036854775808 ≤ high) (g1 : high ≤ 9223372036854775807)
include hl h0 h1 g0 g1
theorem knumeral_any (hev : EV w) : Calls Tryz.prog 73 #[.string (bs l), .int .i64 low, .int .i64 high] w fun e w' => e = .returned (.tuple #[.int .i64 (numeP l low high).1, errV 32 (numeP l low high).2]) ∧ Below w.heap.size w w' := by
  have c := hid (knumber_any l w hl hev)
  unfold NumPost at c
  clear hev
  cases hn : numL l with
  | none =>
    have hp : numeP l low high = (0, 3) := by unfold numeP; rw [hn]
    rw [hp]
    rw [hn] at c
    clear hp hn
    go_enter Tryz.func73, Tryz.ntmps73
    go_wp2_with fail
    refine c.out.mono ?_
    rintro e w1 ⟨n, rfl, _, hb⟩
    go_wp2
    go_ret2
    exact ⟨rfl, hb⟩
  | some x =>
    have hle := numL_le l x hn
    rw [hn] at c
    by_cases hr : (x : Int) < low ∨ high < (x : Int)
    · have hp : numeP l low high = (0, 2) := by unfold numeP; rw [hn]; exact if_pos hr
      rw [hp]
      clear hp hn
      by_cases hr1 : (x : Int) < low
      · go_enter Tryz.func73, Tryz.ntmps73
        go_wp2_with fail
        refine c.out.mono ?_
        rintro e w1 ⟨n, rfl, hnx, hb⟩
        obtain rfl := hnx x rfl
        clear hr hnx
        go_wp2
        go_ret2
        exact ⟨rfl, hb⟩
      · have hr2 : high < (x : Int) := by rcases hr with h | h <;> omega
        go_enter Tryz.func73, Tryz.ntmps73
        go_wp2_with fail
        refine c.out.mono ?_
        rintro e w1 ⟨n, rfl, hnx, hb⟩
        obtain rfl := hnx x rfl
        clear hr hnx
        go_wp2
        go_ret2
        exact ⟨rfl, hb⟩
    · have hp : numeP l low high = ((x : Int), 0) := by unfold numeP; rw [hn]; exact if_neg hr
      rw [hp]
      have hr1 : low ≤ (x : Int) := by omega
      have hr2 : (x : Int) ≤ high := by omega
      clear hp hn
      go_enter Tryz.func73, Tryz.ntmps73
      go_wp2_with fail
      refine c.out.mono ?_
      rintro e w1 ⟨n, rfl, hnx, hb⟩
      obtain rfl := hnx x rfl
      clear hr hnx
      go_wp2
      go_ret2
      exact ⟨rfl, hb⟩
theorem rnumerals_any : Calls Tryz.prog 68 #[.string (bs l), .int .i64 low, .int .i64 high] w fun e w' => e = .returned (.tuple #[.int .i64 (numeP l low high).1, .int .i64 ((numeP l low high).2 : Nat)]) ∧ Below w.heap.size w w' := by
  have c := hid (rnumeral_any l w hl)
  cases hn : numL l with
  | none =>
    have hp : numeP l low high = (0, 3) := by unfold numeP; rw [hn]
    rw [hp]
    rw [hn] at c
    simp only [numI] at c
    clear hp hn
    go_enter Tryz.func68, Tryz.ntmps68
    go_wp2_with fail
    refine c.out.mono ?_
    rintro e w1 ⟨rfl, hb⟩
    go_wp2
    go_ret2
    exact ⟨rfl, hb⟩
  | some x =>
    have hle := numL_le l x hn
    rw [hn] at c
    simp only [numI] at c
    by_cases hr : (x : Int) < low ∨ high < (x : Int)
    · have hp : numeP l low high = (0, 2) := by unfold numeP; rw [hn]; exact if_pos hr
      rw [hp]
      have cw := fun w => hid (within_false (x : Int) low high w (by omega))
      clear hp hn
      go_enter Tryz.func68, Tryz.ntmps68
      go_wp2_with fail
      refine c.out.mono ?_
      rintro e w1 ⟨rfl, hb⟩
      go_wp2_with fail
      refine (cw _).out.mono ?_
      rintro e w2 ⟨rfl, rfl⟩
      go_wp2
      go_ret2
      exact ⟨rfl, hb⟩
    · have hp : numeP l low high = ((x : Int), 0) := by unfold numeP; rw [hn]; exact if_neg hr
      rw [hp]
      have cw := fun w => hid (within_true (x : Int) low high w (by omega) (by omega))
      clear hp hn
      go_enter Tryz.func68, Tryz.ntmps68
      go_wp2_with fail
      refine c.out.mono ?_
      rintro e w1 ⟨rfl, hb⟩
      go_wp2_with fail
      refine (cw _).out.mono ?_
      rintro e w2 ⟨rfl, rfl⟩
      go_wp2
      go_ret2
      exact ⟨rfl, hb⟩
end
end Go.Proofs.YtbimlijhgeajjaaGreatDoor

namespace Go.Proofs.YtbimlijhgeajjaaGreatDoor
open Go.RowKit
set_option linter.unusedVariables false
set_option maxRecDepth 100000
theorem infoStr1 : (Tryz.prog.info? 9).map (fun i => (i.zero, i.size, i.bytes)) = some (some (.string ⟨#[]⟩), 1, 16) := by kernel_rfl
def RGen (c : UInt8) (l : List UInt8) (w : World) (s i : Value) (wr : World) : Prop :=
  ∃ (ds : List (List UInt8)) (r : List UInt8), ds.length + r.count c = l.count c ∧ r.length ≤ l.length ∧ s = .string (bs r) ∧ i = .int .i64 (ds.length : Nat) ∧ splitL c l = ds ++ splitL c r ∧
    wr = w.alloc (.cells (sArr (ds ++ List.replicate (r.count c + 1) [])) 9)
set_option maxHeartbeats 1000000 in
theorem genSplit1_any (c : UInt8) (l : List UInt8) (w : World) (hl : l.length ≤ 1099511627776) :
    Calls Tryz.prog 126 #[.string (bs l), .string (bs [c]), .int .i64 0, .int .i64 (-1)] w fun e w' =>
      e = .returned (.slice (some ⟨w.heap.size, 0, none⟩) (l.count c + 1) (l.count c + 1)) ∧ w' = w.alloc (.cells (sArr (splitL c l)) 9) := by
  have c1 := fun l w => hid (sCount1_any l c w)
  have c2 := fun l w => hid (sIndex1_any l c w)
  have hcl : l.count c ≤ l.length := List.count_le_length
  have hmin : min (l.count c : Int) (l.length : Int) = (l.count c : Int) := by omega
  have hmk : ∀ w, (Instr.makeSlice 23 (.int .i64 ((l.count c : Int) + 1)) (.int .i64 ((l.count c : Int) + 1))).run Tryz.prog w = .ok (.slice (some ⟨w.heap.size, 0, none⟩) (l.count c + 1) (l.count c + 1)) (w.alloc (.cells (sArr (List.replicate (l.count c + 1) [])) 9)) := fun w => make_strs (P := Tryz.prog) 23 9 Tryz.underlying23 infoStr1 (l.count c + 1) (by omega) w
  have hsp : splitL c l = [] ++ splitL c l := rfl
  have Hsp := hid hsp; clear hsp
  generalize hn : l.count c = n at *
  have Hn := hid hn; clear hn
  have c1l := c1 l
  rw [Hn.out] at c1l
  clear c1
  go_enter Tryz.func126, Tryz.ntmps126
  go_wp2_with (go_at_call 162; refine (c1l _).out.mono ?_; rintro e w1 ⟨rfl, rfl⟩)
  have hs1 : IntKind.i64.wrap ((n : Int) + 1 - 1) = (n : Int) := by rw [IntKind.wrap_i64]; omega
  go_loopw [0, 10] (fun s i wr => RGen c l w1 s i wr) (fun _ i _ => n - (intOf i).toNat)
  case atStart => exact ⟨[], l, by simp, by omega, rfl, rfl, Hsp.out, by rw [Hn.out]; rfl⟩
  case round =>
    obtain ⟨ds, r, hcnt, hrl, rfl, rfl, heq, rfl⟩ := hrel
    rw [Hn.out] at hcnt
    have Heq := hid heq; clear heq
    have c2r := c2 r
    rcases idx_cases r c with ⟨h1, h2⟩ | ⟨i, h1, hi, h3, h4⟩
    · have h0 : r.count c = 0 := List.count_eq_zero_of_not_mem h2
      have hs := splitL_none c r h2
      rw [h0] at hcnt ⊢
      have hset : (sArr (ds ++ [[]])).setIfInBounds ds.length (.string (bs r)) = sArr (splitL c l) := by
        have := sArr_set ds 0 r
        rw [Heq.out, hs]; show (sArr (ds ++ [[]])).setIfInBounds ds.length (.string ⟨r.toArray⟩) = _; simpa using this
      have hg : (sArr (ds ++ [[]]))[ds.length]? = some (.string (bs [])) := by rw [sArr_get _ _ (by simp)]; simp [bs]
      clear h1 h2 hs h0 c2 c2r
      have Hset := hid hset; clear hset
      obtain rfl : ds.length = n := by omega
      go_wp2
      go_ret
      refine ⟨rfl, ?_⟩
      rw [Hset.out]
    · have h0 := count_idx c r i h3 h4
      have hs := splitL_idx c r i h3 h4
      rw [h1] at c2r
      have hset := sArr_set ds ((r.drop (i + 1)).count c + 1) (r.take i)
      rw [← h0] at hset
      rw [hs] at Heq
      have Hset := hid hset; have H0 := hid h0
      clear h3 h4 h1 hset hs c2 h0
      have hlt : (ds.length : Int) < (n : Int) := by have := H0.out; omega
      have s1 : IntKind.i64.wrap ((i : Int) + 1) = (i : Int) + 1 := by rw [IntKind.wrap_i64]; omega
      have s2 : (0 : Int) ≤ (i : Int) + 1 := by omega
      have s3 : ((i : Int) + 1).toNat = i + 1 := by omega
      have s4 : (i : Int) + 1 ≤ (r.length : Int) := by omega
      have s5 : (i : Int) ≤ (r.length : Int) := by omega
      have s6 : (ds.length : Int) < (n : Int) + 1 := by omega
      have hg : (sArr (ds ++ List.replicate (r.count c + 1) []))[ds.length]? = some (.string (bs [])) := by
        rw [sArr_get _ _ (by simp)]; simp [bs]
      go_wp2_with (go_at_call 127; refine (c2r _).out.mono ?_; rintro e w1 ⟨rfl, rfl⟩)
      go_roundw
      case rel =>
        refine ⟨ds ++ [r.take i], r.drop (i + 1), by rw [List.length_append, List.length_singleton, Hn.out]; have := H0.out; omega, by simp; omega, rfl, by simp, by rw [Heq.out]; simp, ?_⟩
        rw [← H0.out]; exact congrArg (fun a => w1.alloc (.cells a 9)) Hset.out
      case measure => simp [intOf]; omega
theorem split1_any (c : UInt8) (l : List UInt8) (w : World) (hl : l.length ≤ 1099511627776) :
    Calls Tryz.prog 88 #[.string (bs l), .string (bs [c])] w fun e w' =>
      e = .returned (.slice (some ⟨w.heap.size, 0, none⟩) (splitL c l).length (splitL c l).length) ∧ w' = w.alloc (.cells (sArr (splitL c l)) 9) := by
  have c1 := fun w => hid (genSplit1_any c l w hl)
  rw [splitL_length]
  generalize l.count c = n at *
  generalize splitL c l = ps at *
  go_enter Tryz.func88, Tryz.ntmps88
  go_wp2_with (go_at_call 126; refine (c1 _).out.mono ?_; rintro e w1 ⟨rfl, rfl⟩)
  go_ret
  exact ⟨rfl, rfl⟩
end Go.Proofs.YtbimlijhgeajjaaGreatDoor

namespace Go.Proofs.YtbimlijhgeajjaaGreatDoor
open Go Go.RowKit Go.Maps
set_option linter.unusedVariables false
set_option linter.unusedSectionVars false
set_option linter.unusedSimpArgs false
section
variable {P : Program} {T K E : TypeId}
theorem plainElem_form {v : Value} {d : DataW Unit} {p : List MemPlace} (h : plainElem P E v = some (d, p)) :
    (∃ x, v = .bool x ∧ d = .lit (.bool x)) ∨ (∃ q a, v = .int q a ∧ d = .lit (.int q a)) ∨ (∃ s : ByteArray, v = .string s ∧ d = .lit (.string s.data.toList)) := by
  unfold plainElem at h
  split at h
  · simp only [Option.some.injEq, Prod.mk.injEq] at h
    exact .inl ⟨_, rfl, h.1.symm⟩
  · split at h
    · rename_i hq
      simp only [Option.some.injEq, Prod.mk.injEq] at h
      exact .inr (.inl ⟨_, _, rfl, by rw [hq.1]; exact h.1.symm⟩)
    · cases h
  · split at h
    · simp only [Option.some.injEq, Prod.mk.injEq] at h
      exact .inr (.inr ⟨_, rfl, h.1.symm⟩)
    · cases h
  · cases h
theorem plainElem_inj {v v' : Value} {d : DataW Unit} {p p' : List MemPlace} (h : plainElem P E v = some (d, p)) (h' : plainElem P E v' = some (d, p')) : v = v' := by
  rcases plainElem_form h with ⟨x, rfl, rfl⟩ | ⟨q, a, rfl, rfl⟩ | ⟨s, rfl, rfl⟩ <;> rcases plainElem_form h' with ⟨x', rfl, e⟩ | ⟨q', a', rfl, e⟩ | ⟨s', rfl, e⟩ <;> simp at e
  · rw [e]
  · rw [e.1, e.2]
  · have : s = s' := by
      cases s; cases s'
      simpa using e
    rw [this]
/-- block b is a map of at most n entries whose element at any key v is f v (z's place: where there is none) -/
def MapAs (w : World) (P : Program) (K E : TypeId) (z : DataW Unit) (b n : Nat) (f : Value → Value) : Prop :=
  ∃ D : DataW Unit, IsMap D ∧ w.ownsMap P K (plainElem P E) b n D ∧ ∀ v kl, keyOf P K v = some kl → ∃ p, plainElem P E (f v) = some (D.atKey kl z, p)
theorem MapAs.made (w : World) (z0 : Value) (z : DataW Unit) (hz : ∃ p, plainElem P E z0 = some (z, p)) : MapAs (w.alloc (.map #[] 0)) P K E z w.heap.size 0 (fun _ => z0) :=
  ⟨.map [], isMap_empty, World.ownsMap_made _ _ _ _, fun v kl h => hz⟩
theorem MapAs.kept {w w' : World} {z : DataW Unit} {b n : Nat} {f : Value → Value} {row : Option Nat} (h : MapAs w P K E z b n f) (hg : w.grownBy w' row) (hne : some b ≠ row) : MapAs w' P K E z b n f := by
  obtain ⟨D, h1, h2, h3⟩ := h
  exact ⟨D, h1, h2.kept hg hne, h3⟩
theorem MapAs.lt {w : World} {z : DataW Unit} {b n : Nat} {f : Value → Value} (h : MapAs w P K E z b n f) : b < w.heap.size := by
  obtain ⟨D, h1, h2, h3⟩ := h
  exact h2.lt
theorem MapAs.same {w w' : World} {z : DataW Unit} {b n : Nat} {f : Value → Value} (h : MapAs w P K E z b n f) (hb : w'.heap[b]? = w.heap[b]?) : MapAs w' P K E z b n f := by
  obtain ⟨D, h1, ⟨es, clock, e1, e2⟩, h3⟩ := h
  exact ⟨D, h1, ⟨es, clock, hb.trans e1, e2⟩, h3⟩
theorem MapAs.below {w w' : World} {z : DataW Unit} {b n : Nat} {f : Value → Value} (h : MapAs w P K E z b n f) (hb : Below w.heap.size w w') : MapAs w' P K E z b n f :=
  h.same (hb.block b h.lt)
theorem MapAs.fn {w : World} {z : DataW Unit} {b n : Nat} {f g : Value → Value} (h : MapAs w P K E z b n f) (hfg : ∀ v kl, keyOf P K v = some kl → f v = g v) : MapAs w P K E z b n g := by
  obtain ⟨D, h1, h2, h3⟩ := h
  exact ⟨D, h1, h2, fun v kl hk => by rw [← hfg v kl hk]; exact h3 v kl hk⟩
theorem MapAs.mono {w : World} {z : DataW Unit} {b n n' : Nat} {f : Value → Value} (h : MapAs w P K E z b n f) (hn : n ≤ n') : MapAs w P K E z b n' f := by
  obtain ⟨D, h1, h2, h3⟩ := h
  exact ⟨D, h1, h2.mono hn, h3⟩
theorem MapAs.look {w : World} {z : DataW Unit} {b n : Nat} {f : Value → Value} (h : MapAs w P K E z b n f) (L : Keyed P K) (ht : P.underlying T = some (.map K E)) {z0 : Value} (hz : (zeroValue E).run P w = .ok z0 w) (hz0 : ∃ p, plainElem P E z0 = some (z, p))
    {key : Value} {kl : Lit} (hkey : keyOf P K key = some kl) : (Instr.lookup T (.map (some b)) key false).run P w = .ok (f key) w := by
  obtain ⟨D, h1, h2, h3⟩ := h
  obtain ⟨zp, hz0⟩ := hz0
  obtain ⟨v, ps, hrun, hv⟩ := h2.lookup L ht hz hz0 hkey
  obtain ⟨p, hp⟩ := h3 key kl hkey
  rw [hrun, plainElem_inj hv hp]
theorem MapAs.put {w : World} {z : DataW Unit} {b n : Nat} {f : Value → Value} (h : MapAs w P K E z b n f) (L : Keyed P K) (ht : P.underlying T = some (.map K E)) (hn : n < maxLen)
    {key val : Value} {kl : Lit} (hkey : keyOf P K key = some kl) (hv : ∃ d p, plainElem (H := Unit) P E val = some (d, p)) :
    ∃ w', (Instr.mapUpdate T (.map (some b)) key val).run P w = .ok () w' ∧ (∀ g : Value → Value, g key = val → (∀ v, v ≠ key → g v = f v) → MapAs w' P K E z b (n + 1) g) ∧ w.grownBy w' (some b) := by
  obtain ⟨D, h1, h2, h3⟩ := h
  obtain ⟨d, ps, hv⟩ := hv
  obtain ⟨w', hrun, hown, hg⟩ := h2.update L ht hn hkey hv
  refine ⟨w', hrun, fun g e1 e2 => ⟨_, h1.put kl d, hown, fun v kl' hk => ?_⟩, hg⟩
  by_cases he : v = key
  · subst he
    rw [hkey] at hk
    cases hk
    rw [e1, atKey_put_same h1 (L.key hkey)]
    exact ⟨ps, hv⟩
  · rw [e2 v he, atKey_put_other (fun e => he (L.inj hk (by rw [e]; exact hkey)))]
    exact h3 v kl' hk
end
end Go.Proofs.YtbimlijhgeajjaaGreatDoor

namespace Go.Proofs.YtbimlijhgeajjaaGreatDoor
open Go Go.RowKit Go.Maps
set_option linter.unusedVariables false
set_option linter.unusedSectionVars false
set_option linter.unusedSimpArgs false
theorem textLaw : Keyed Tryz.prog 9 := string_keyed Tryz.underlying9
theorem zeroSeen (w : World) : (zeroValue 4).run Tryz.prog w = .ok (.bool false) w := by kernel_rfl
def seenF (l : List (List UInt8)) (v : Value) : Value := match v with | .string b => .bool (l.contains b.data.toList) | _ => .bool false
abbrev SeenM (w : World) (b n : Nat) (l : List (List UInt8)) : Prop := MapAs w Tryz.prog 9 4 (.lit (.bool false)) b n (seenF l)
theorem elemSeen (x : Bool) : ∃ p, plainElem (H := Unit) Tryz.prog 4 (.bool x) = some (.lit (.bool x), p) := ⟨[], plainElem_bool Tryz.underlying4 x⟩
theorem textKey (s : List UInt8) (h : s.length ≤ 9223372036854775807) : keyOf Tryz.prog 9 (.string (bs s)) = some (.string s) := by
  have := WideMaps.keyOf_string_mk (P := Tryz.prog) Tryz.underlying9 (s := bs s) (by unfold maxLen; simpa [bs, ByteArray.size] using h)
  rw [this]; simp [bs]
theorem SeenM.made (w : World) : SeenM (w.alloc (.map #[] 0)) w.heap.size 0 [] :=
  (MapAs.made w (.bool false) _ (elemSeen false)).fn fun v kl h => by cases v <;> rfl
theorem SeenM.look {w : World} {b n : Nat} {l : List (List UInt8)} (h : SeenM w b n l) (s : List UInt8) (hs : s.length ≤ 9223372036854775807) :
    (Instr.lookup 92 (.map (some b)) (.string (bs s)) false).run Tryz.prog w = .ok (.bool (l.contains s)) w := by
  have := MapAs.look h textLaw Tryz.underlying92 (zeroSeen w) (elemSeen false) (textKey s hs)
  rw [this]; simp [seenF, bs]
theorem SeenM.put {w : World} {b n : Nat} {l : List (List UInt8)} (h : SeenM w b n l) (hn : n < 1000000) (s : List UInt8) (hs : s.length ≤ 9223372036854775807) :
    ∃ w', (Instr.mapUpdate 92 (.map (some b)) (.string (bs s)) (.bool true)).run Tryz.prog w = .ok () w' ∧ SeenM w' b (n + 1) (s :: l) ∧ w.grownBy w' (some b) := by
  obtain ⟨w', hr, hf, hg⟩ := MapAs.put h textLaw Tryz.underlying92 (by unfold maxLen; omega) (textKey s hs) ⟨_, elemSeen true⟩
  refine ⟨w', hr, hf _ (by simp [seenF, bs]) (fun v hv => ?_), hg⟩
  cases v <;> try rfl
  rename_i t
  simp only [seenF, List.contains_cons]
  have : (t.data.toList == s) = false := by
    rw [beq_eq_false_iff_ne]
    rintro e
    apply hv
    rw [← e]
    cases t
    simp [bs]
  rw [this, Bool.false_or]
end Go.Proofs.YtbimlijhgeajjaaGreatDoor
