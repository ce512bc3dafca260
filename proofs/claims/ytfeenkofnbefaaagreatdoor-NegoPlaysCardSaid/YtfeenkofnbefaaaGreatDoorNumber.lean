/- The number that a value is: by the program. -/
import Derived.Test.YtfeenkofnbefaaaGreatDoorNumeral
import Derived.Test.YtfeenkofnbefaaaGreatDoorMono
import Derived.Test.YtfeenkofnbefaaaGreatDoorGuard
import Derived.Deep.QuietTactic
import Derived.BigQuiet
set_option linter.unusedSectionVars false
set_option linter.unusedSimpArgs false
set_option linter.unusedVariables false
namespace Go.Proofs.YtfeenkofnbefaaaGreatDoor
open Go Go.RowKit
set_option linter.unusedVariables false
set_option linter.unusedSectionVars false
set_option linter.unusedSimpArgs false
set_option maxRecDepth 100000
theorem zeroSet (w : World) : (zeroValue 271).run Tryz.prog w = .ok (.agg (Array.replicate 256 (.bool false))) w := by kernel_rfl
theorem cutP_any (l : List UInt8) (w : World) : Calls Tryz.prog 164 #[.string (bs l), .string (bs [48, 120])] w fun e w' => e = .returned (.tuple #[.string (bs (if [48, 120].isPrefixOf l = true then l.drop 2 else l)), .bool ([48, 120].isPrefixOf l)]) ∧ w = w' := by
  refine (Tryz.strings_CutPrefix (bs l) (bs [48, 120]) w).mono ?_
  rintro e w' ⟨rfl, rfl⟩
  refine ⟨?_, rfl⟩
  simp [bs, Lib.trimPrefix, Lib.hasPrefix]
theorem indexAny_none (l : List UInt8) (h : (l.all fun c => decide (digV c < 16)) = true) : Lib.indexAny l [95, 43, 45] = -1 := by
  induction l with
  | nil => rfl
  | cons c l ih =>
    rw [List.all_cons, Bool.and_eq_true] at h
    have hd := digit_plain c (of_decide_eq_true h.1)
    rw [Lib.indexAny, ih h.2]
    have : [95, 43, 45].contains c = false := by simp [hd.1, hd.2.1, hd.2.2]
    rw [this]; rfl
theorem cany_ok (l : List UInt8) (w : World) (hl : l.length ≤ 1000000) (h : (l.all fun c => decide (digV c < 16)) = true) :
    Calls Tryz.prog 166 #[.string (bs l), .string (bs [95, 43, 45])] w fun e w' => e = .returned (.bool false) ∧ Below w.heap.size w w' := by
  refine (Tryz.strings_ContainsAny zeroSet (bs l) (bs [95, 43, 45]) w (by rw [bs_size]; omega) (by rw [bs_size]; simp) ?_ ?_).mono ?_
  · intro j b hb
    have hm : b ∈ l := by
      rw [show (bs l).data.toList = l by simp [bs]] at hb
      exact List.mem_of_getElem? hb
    exact (low_digit b (of_decide_eq_true (List.all_eq_true.1 h b hm))).2
  · intro j b hb
    rw [show (bs [95, 43, 45]).data.toList = [95, 43, 45] by simp [bs]] at hb
    have hm := List.mem_of_getElem? hb
    simp only [List.mem_cons, List.not_mem_nil, or_false] at hm
    rcases hm with rfl | rfl | rfl <;> decide
  · rintro e w' ⟨rfl, hb⟩
    refine ⟨?_, hb⟩
    rw [show (bs l).data.toList = l by simp [bs], show (bs [95, 43, 45]).data.toList = [95, 43, 45] by simp [bs], Lib.containsAny, indexAny_none l h]
    rfl
theorem puS_digits (b : Nat) (l : List UInt8) (h : (puS b 1099511627775 l).2 = 0) : (l.all fun c => decide (digV c < b)) = true ∧ l ≠ [] ∧ numB b l = some (puS b 1099511627775 l).1 := by
  have hn : numB b l = some (puS b 1099511627775 l).1 := by unfold numB; rw [if_pos h]
  refine ⟨?_, ?_, hn⟩
  · cases hq : (l.all fun c => decide (digV c < b)) with
    | true => rfl
    | false => rw [numB_not b l hq] at hn; cases hn
  · rintro rfl
    simp [puS] at h
def NumPost (o : Option Nat) (w : World) (e : Ending) (w' : World) : Prop :=
  ∃ n : Int, e = .returned (.tuple #[.int .i64 n, .bool o.isSome]) ∧ (∀ x, o = some x → n = (x : Int)) ∧ Below w.heap.size w w'
set_option maxHeartbeats 4000000 in
theorem knumber_any (l : List UInt8) (w : World) (hl : l.length ≤ 1000000) (hev : EV w) :
    Calls Tryz.prog 125 #[.string (bs l)] w fun e w' => NumPost (numL l) w e w' := by
  have cc := fun w => hid (cutP_any l w)
  have h22 : (⟨#[48, 120]⟩ : ByteArray) = bs [48, 120] := rfl
  have h3 : (⟨#[95, 43, 45]⟩ : ByteArray) = bs [95, 43, 45] := rfl
  cases hp : [48, 120].isPrefixOf l
  case true =>
    have hnl : numL l = numB 16 (l.drop 2) := by
      unfold numL
      rw [if_pos (of_decide_eq_true ((pre_take l).symm.trans hp))]
    rw [hp] at cc
    rw [hnl]
    simp only [if_true] at cc
    obtain ⟨t, ht⟩ : ∃ t, l.drop 2 = t := ⟨_, rfl⟩
    have htl : t.length ≤ 1000000 := by rw [← ht, List.length_drop]; omega
    rw [ht] at cc ⊢
    have cs := hid (spu_any 16 16 t w htl hev (fun w => pu_16_40 t w (by omega)))
    have hle := puS_le 16 1099511627775 t
    have hd := puS_digits 16 t
    have hno : (puS 16 1099511627775 t).2 ≠ 0 → numB 16 t = none := fun h => by unfold numB; rw [if_neg h]
    have ca := fun h w => hid (cany_ok t w htl h)
    unfold SpPost at cs
    unfold NumPost
    generalize puS 16 1099511627775 t = R at *
    obtain ⟨x, k⟩ := R
    simp only at cs hle hd hno
    have HD := hid hd; have HNO := hid hno
    clear hd hno hnl hp hev
    go_enter Tryz.func125, Tryz.ntmps125
    rw [h22]
    go_wp2_with fail
    refine (cc _).out.mono ?_
    rintro e w1 ⟨rfl, rfl⟩
    go_wp2_with fail
    refine cs.out.mono ?_
    rintro e w2 ⟨ev, rfl, ⟨hk, rfl⟩ | ⟨hk, N, rfl⟩, hb2⟩
    · obtain ⟨h1, h2, h4⟩ := HD.out hk
      have ca := fun w => hid ((ca h1 w).out)
      have HNS := hid h4
      clear h1 h2 h4 hk
      go_wp2_with fail
      refine (ca _).out.mono ?_
      rintro e w3 ⟨rfl, hb3⟩
      go_wp2
      go_ret2
      rw [HNS.out]
      exact ⟨_, rfl, fun y hy => by cases hy; rfl, hb2.trans (hb3.mono hb2.size)⟩
    · have HN := hid (HNO.out hk)
      clear hk ca
      go_wp2
      go_ret2
      rw [HN.out]
      exact ⟨_, rfl, fun y hy => (by cases hy), hb2⟩
  case false =>
    have hnl : numL l = if l ≠ [48] ∧ l[0]? = some 48 then none else numB 10 l := by
      unfold numL
      rw [if_neg (of_decide_eq_false ((pre_take l).symm.trans hp))]
    rw [hp] at cc
    rw [hnl]
    obtain ⟨O, hO⟩ : ∃ O, (if l ≠ [48] ∧ l[0]? = some 48 then none else numB 10 l) = O := ⟨_, rfl⟩
    rw [hO]
    have HOO := hid hO.symm
    clear hO
    simp only [Bool.false_eq_true, if_false] at cc
    have cs := hid (spu_any 10 10 l w hl hev (fun w => pu_10_40 l w (by omega)))
    have hle := puS_le 10 1099511627775 l
    have hd := puS_digits 10 l
    have hno : (puS 10 1099511627775 l).2 ≠ 0 → numB 10 l = none := fun h => by unfold numB; rw [if_neg h]
    have ca := fun h w => hid (cany_ok l w hl h)
    unfold SpPost at cs
    unfold NumPost
    generalize puS 10 1099511627775 l = R at *
    obtain ⟨x, k⟩ := R
    simp only at cs hle hd hno
    have HD := hid hd; have HNO := hid hno
    have h48 : (⟨#[48]⟩ : ByteArray) = bs [48] := rfl
    clear hd hno hnl hp hev
    go_enter Tryz.func125, Tryz.ntmps125
    rw [h22]
    go_wp2_with fail
    refine (cc _).out.mono ?_
    rintro e w1 ⟨rfl, rfl⟩
    go_wp2_with fail
    refine cs.out.mono ?_
    rintro e w2 ⟨ev, rfl, ⟨hk, rfl⟩ | ⟨hk, N, rfl⟩, hb2⟩
    · obtain ⟨h1, h2, h4⟩ := HD.out hk
      have h16 : (l.all fun c => decide (digV c < 16)) = true := List.all_eq_true.2 fun c hc => decide_eq_true (by have := of_decide_eq_true (List.all_eq_true.1 h1 c hc); omega)
      have ca := fun w => (ca h16 w).out
      have hlen := List.length_pos_iff.2 h2
      obtain ⟨y, hy⟩ : ∃ y, l[0]? = some y := ⟨l[0], List.getElem?_eq_getElem hlen⟩
      obtain ⟨hx1, hx2⟩ := List.getElem?_eq_some_iff.1 hy
      have HNS := hid h4
      clear h1 h2 h4 h16 hk
      have hmx : Tryz.prog.follows .mixedOrders = true := by kernel_rfl
      have hwx : IntKind.i64.wrap (x : Int) = (x : Int) := by rw [IntKind.wrap_i64]; omega
      have d1 : ∀ W : World, Below w2.heap.size w2 W → Hid (Calls Tryz.prog 166 #[.string (bs l), .string (bs [95, 43, 45])] W fun e w' => e = .returned (.bool false) ∧ Below w2.heap.size w2 w') := fun W hW => hid ((ca W).mono (by rintro e w' ⟨rfl, hb⟩; exact ⟨rfl, hW.trans (hb.mono hW.size)⟩))
      clear ca
      by_cases hl48 : l = [48]
      · have HNL := hid (show (if l ≠ [48] ∧ l[0]? = some 48 then none else numB 10 l) = some x by rw [if_neg (by simp [hl48]), HNS.out])
        have hbe : (l == [48]) = true := by rw [hl48]; rfl
        clear hl48 hy hx2
        go_wp2_with fail
        refine wpIn_wide (n := 4).1 ?_
        refine region_guard (aF := ?kAa) [(35, .int .u64 (x : Int)), (36, .int .i64 (x : Int)), (37, .nilIface), (38, .bool true), (39, .bool true), (40, .string (bs l)), (41, .bool false), (42, .bool true), (43, .bool true), (44, .bool true), (45, .string (bs l)), (46, .bool true), (47, .bool true), (48, undef), (49, undef), (50, undef), (51, .bool true), (52, .bool true), (2, .int .i64 (x : Int)), (3, .bool true)] (fun W => Below w2.heap.size w2 W) ?kBa hmx (by kernel_rfl) (by kernel_rfl) (Below.refl _ _).drew ?kCa ?kDa
        case kBa =>
          simp only [putAll, List.foldl_cons, List.foldl_nil, List.setIfInBounds_toArray, List.set_cons_zero, List.set_cons_succ]
          exact rfl
        case kCa =>
          refine ⟨?_, ?_, ?_, ?_, ?_, ?_, ?_, ?_, ?_, ?_, ?_, ?_, ?_, ?_, ?_, ?_, ?_, ?_, ?_, ?_, trivial⟩
          all_goals refine ⟨fun d hd => by simp at hd <;> (subst hd; simp), ?_⟩
          all_goals first
            | refine .inl ⟨by first | exact trivial | exact ⟨by simp, rfl⟩, fun W h => ⟨?_, ?_⟩⟩
            | refine .inr ⟨⟨by simp, rfl⟩, fun d hd => by simp at hd <;> (subst hd; rfl), fun W h f hf => by first | (simp [go_sem, Oper.about] at hf; done) | trivial⟩
            | refine .inr ⟨⟨by simp, rfl⟩, fun d hd => by simp at hd <;> (subst hd; rfl), fun W h f hf => trivial⟩
          all_goals first
            | (simp [go_sem, Oper.about]; done)
            | (simp [go_sem, Oper.about]; exact trivial)
            | skip
          all_goals first
            | (simp [OpInv, go_sem, h, hwx, hbe, h48, hlen]; done)
            | (simp [OpInv, go_sem]; refine callsIn_wide.2 ((d1 _ h).out.mono ?_); rintro e w' ⟨rfl, hb⟩; exact ⟨_, rfl, rfl, hb⟩)
            | skip
        case kDa =>
          intro W9 hW9
          gi_wp2
          go_wp2
          go_ret2
          rw [HOO.out, HNL.out]
          exact ⟨_, rfl, (fun z hz => by cases hz; rfl), hb2.trans (hW9.mono hb2.size)⟩
      · have hbe : (l == [48]) = false := beq_eq_false_iff_ne.2 hl48
        by_cases hy48 : y = 48
        · have HNL := hid (show (if l ≠ [48] ∧ l[0]? = some 48 then none else numB 10 l) = none by rw [if_pos ⟨hl48, by rw [hy, hy48]⟩])
          have hyx : l[0] = 48 := by rw [hx2, hy48]
          clear hl48 hy hx2
          go_wp2_with fail
          refine wpIn_wide (n := 4).1 ?_
          refine region_guard (aF := ?kAb) [(35, .int .u64 (x : Int)), (36, .int .i64 (x : Int)), (37, .nilIface), (38, .bool true), (39, .bool true), (40, .string (bs l)), (41, .bool false), (42, .bool true), (43, .bool true), (44, .bool true), (45, .string (bs l)), (46, .bool false), (47, .bool false), (48, .string (bs l)), (49, .int .u8 48), (50, .bool false), (51, .bool false), (52, .bool false), (2, .int .i64 (x : Int)), (3, .bool false)] (fun W => Below w2.heap.size w2 W) ?kBb hmx (by kernel_rfl) (by kernel_rfl) (Below.refl _ _).drew ?kCb ?kDb
          case kBb =>
            simp only [putAll, List.foldl_cons, List.foldl_nil, List.setIfInBounds_toArray, List.set_cons_zero, List.set_cons_succ]
            exact rfl
          case kCb =>
            refine ⟨?_, ?_, ?_, ?_, ?_, ?_, ?_, ?_, ?_, ?_, ?_, ?_, ?_, ?_, ?_, ?_, ?_, ?_, ?_, ?_, trivial⟩
            all_goals refine ⟨fun d hd => by simp at hd <;> (subst hd; simp), ?_⟩
            all_goals first
              | refine .inl ⟨by first | exact trivial | exact ⟨by simp, rfl⟩, fun W h => ⟨?_, ?_⟩⟩
              | refine .inr ⟨⟨by simp, rfl⟩, fun d hd => by simp at hd <;> (subst hd; rfl), fun W h f hf => by first | (simp [go_sem, Oper.about] at hf; done) | trivial⟩
              | refine .inr ⟨⟨by simp, rfl⟩, fun d hd => by simp at hd <;> (subst hd; rfl), fun W h f hf => trivial⟩
            all_goals first
              | (simp [go_sem, Oper.about]; done)
              | (simp [go_sem, Oper.about]; exact trivial)
              | skip
            all_goals first
              | (simp [OpInv, go_sem, h, hwx, hbe, h48, hlen, hyx]; done)
              | (simp [OpInv, go_sem]; refine callsIn_wide.2 ((d1 _ h).out.mono ?_); rintro e w' ⟨rfl, hb⟩; exact ⟨_, rfl, rfl, hb⟩)
              | skip
          case kDb =>
            intro W9 hW9
            gi_wp2
            go_wp2
            go_ret2
            rw [HOO.out, HNL.out]
            exact ⟨_, rfl, (fun z hz => by cases hz), hb2.trans (hW9.mono hb2.size)⟩
        · have HNL := hid (show (if l ≠ [48] ∧ l[0]? = some 48 then none else numB 10 l) = some x by rw [if_neg (by rw [hy]; simp [hy48]), HNS.out])
          have hyx : l[0] = y := hx2
          have hyn : ((y.toNat : Int) == 48) = false := by
            rw [beq_eq_false_iff_ne]
            intro e
            exact hy48 (UInt8.toNat_inj.1 (by show y.toNat = 48; omega))
          have hyn2 : ((y.toNat : Int) != 48) = true := by rw [bne, hyn]; rfl
          clear hl48 hy hx2
          go_wp2_with fail
          refine wpIn_wide (n := 4).1 ?_
          refine region_guard (aF := ?kAc) [(35, .int .u64 (x : Int)), (36, .int .i64 (x : Int)), (37, .nilIface), (38, .bool true), (39, .bool true), (40, .string (bs l)), (41, .bool false), (42, .bool true), (43, .bool true), (44, .bool true), (45, .string (bs l)), (46, .bool false), (47, .bool false), (48, .string (bs l)), (49, .int .u8 (y.toNat : Int)), (50, .bool true), (51, .bool true), (52, .bool true), (2, .int .i64 (x : Int)), (3, .bool true)] (fun W => Below w2.heap.size w2 W) ?kBc hmx (by kernel_rfl) (by kernel_rfl) (Below.refl _ _).drew ?kCc ?kDc
          case kBc =>
            simp only [putAll, List.foldl_cons, List.foldl_nil, List.setIfInBounds_toArray, List.set_cons_zero, List.set_cons_succ]
            exact rfl
          case kCc =>
            refine ⟨?_, ?_, ?_, ?_, ?_, ?_, ?_, ?_, ?_, ?_, ?_, ?_, ?_, ?_, ?_, ?_, ?_, ?_, ?_, ?_, trivial⟩
            all_goals refine ⟨fun d hd => by simp at hd <;> (subst hd; simp), ?_⟩
            all_goals first
              | refine .inl ⟨by first | exact trivial | exact ⟨by simp, rfl⟩, fun W h => ⟨?_, ?_⟩⟩
              | refine .inr ⟨⟨by simp, rfl⟩, fun d hd => by simp at hd <;> (subst hd; rfl), fun W h f hf => by first | (simp [go_sem, Oper.about] at hf; done) | trivial⟩
              | refine .inr ⟨⟨by simp, rfl⟩, fun d hd => by simp at hd <;> (subst hd; rfl), fun W h f hf => trivial⟩
            all_goals first
              | (simp [go_sem, Oper.about]; done)
              | (simp [go_sem, Oper.about]; exact trivial)
              | skip
            all_goals first
              | (simp [OpInv, go_sem, h, hwx, hbe, h48, hlen, hyx, hyn, hyn2]; done)
              | (simp [OpInv, go_sem]; refine callsIn_wide.2 ((d1 _ h).out.mono ?_); rintro e w' ⟨rfl, hb⟩; exact ⟨_, rfl, rfl, hb⟩)
              | skip
          case kDc =>
            intro W9 hW9
            gi_wp2
            go_wp2
            go_ret2
            rw [HOO.out, HNL.out]
            exact ⟨_, rfl, (fun z hz => by cases hz; rfl), hb2.trans (hW9.mono hb2.size)⟩
    · have HN := hid (show (if l ≠ [48] ∧ l[0]? = some 48 then none else numB 10 l) = none by rw [HNO.out hk]; split <;> rfl)
      clear hk ca
      go_wp2
      go_quiet (fail)
      go_wp2
      go_ret2
      rw [HOO.out, HN.out]
      exact ⟨_, rfl, fun y hy => (by cases hy), below_drewN hb2 _⟩
end Go.Proofs.YtfeenkofnbefaaaGreatDoor
