/- The walk of the law KeysReads: it returns true. -/
import Derived.Test.YtmdnkmeekfkkhaaGreatDoorNumerals
import Derived.Test.YtmdnkmeekfkkhaaGreatDoorLists
import Derived.Test.YtmdnkmeekfkkhaaGreatDoorEqual
import Derived.Test.YtmdnkmeekfkkhaaGreatDoorCardBase
namespace Go.Proofs.YtmdnkmeekfkkhaaGreatDoor
open Go Go.RowKit
set_option linter.unusedVariables false
set_option linter.unusedSectionVars false
set_option linter.unusedSimpArgs false
set_option maxRecDepth 100000
set_option maxHeartbeats 4000000 in
theorem keysReads_law (s : List UInt8) (low high : Int) (w : World) (h0 : -9223372036854775808 ≤ low) (h1 : low ≤ 9223372036854775807) (g0 : -9223372036854775808 ≤ high) (g1 : high ≤ 9223372036854775807) (hg : EType w) (hev : EV w) :
    Calls Tryz.prog 4 #[.string (bs s), .int .i64 low, .int .i64 high] w fun e w' => e = .returned (.bool true) ∧ Below w.heap.size w w' := by
  by_cases hs : s.length ≤ 300
  · have hd : decide ((300 : Int) < (s.length : Int)) = false := decide_eq_false (by omega)
    have c1 := fun w1 => hid (rnumerals_any s low high w1 (by omega) h0 h1 g0 g1)
    have c2 := fun w1 (hb : Below w.heap.size w w1) => hid (knumeral_any s low high w1 (by omega) h0 h1 g0 g1 (hev.below hb))
    have c3 := fun w1 => hid (rlist_any s w1 (by omega))
    have c4 := fun w1 => hid (list_any s w1 (by omega))
    have cb := fun k w1 (hb : Below w.heap.size w w1) => hid (bare_ok (errV 22 k) k w1 (hg.below hb) (ErrIs.errV w1 k))
    unfold ListRPost at c3
    unfold ListPost at c4
    generalize numeP s low high = N at *
    obtain ⟨n, nk⟩ := N
    have hLl : (listP s).1.length ≤ 1000000 := by
      have : (splitL 44 s).length ≤ s.length + 1 := by rw [splitL_length]; have := List.count_le_length (a := (44 : UInt8)) (l := s); omega
      unfold listP
      split
      · simp only; omega
      · simp
    generalize listP s = L at *
    obtain ⟨ls, lk⟩ := L
    simp only at c1 c2 c3 c4 hLl
    have CB1 := hid (cb nk); have CB2 := hid (cb lk)
    clear cb hg hev
    have he1 : (errV 22 nk).cells = #[errV 22 nk] := by unfold errV; split <;> rfl
    have he2 : (errV 22 lk).cells = #[errV 22 lk] := by unfold errV; split <;> rfl
    generalize errV 22 nk = ev1 at *
    generalize errV 22 lk = ev2 at *
    go_enter Tryz.func4, Tryz.ntmps4
    go_wp2_with fail
    refine (c1 _).out.mono ?_
    rintro e w1 ⟨rfl, hb1⟩
    go_wp2_with fail
    refine (c2 _ hb1).out.mono ?_
    rintro e w2 ⟨rfl, hb2⟩
    have b2 := hb1.trans (hb2.mono hb1.size)
    go_wp2_with fail
    refine (c3 _).out.mono ?_
    rintro e w3 ⟨v1, rfl, hv1, hb3⟩
    have b3 := b2.trans (hb3.mono b2.size)
    have V1 := hid hv1
    obtain ⟨p1, n1, rfl, _⟩ := hv1
    go_wp2_with fail
    refine (c4 _).out.mono ?_
    rintro e w4 ⟨v2, rfl, hv2, hb4⟩
    have b4 := b3.trans (hb4.mono b3.size)
    have V2 := hid hv2
    have V3 := hid (V1.out.below (by omega) hb4)
    obtain ⟨p2, n2, rfl, _⟩ := hv2
    go_wp2_with fail
    refine (CB1.out _ b4).out.mono ?_
    rintro e w5 ⟨rfl, hb5⟩
    have b5 := b4.trans (hb5.mono b4.size)
    go_wp2_with fail
    refine (CB2.out _ b5).out.mono ?_
    rintro e w6 ⟨rfl, hb6⟩
    have b6 := b5.trans (hb6.mono b5.size)
    have hb56 := hb5.trans (hb6.mono hb5.size)
    have V4 := hid (V3.out.below (by omega) hb56)
    have V5 := hid (V2.out.below (by omega) hb56)
    have cE := hid (eqStr_true (.slice p1 ls.length n1) (.slice p2 ls.length n2) ls.length ls w6 (by omega) V4.out V5.out)
    go_wp2_with fail
    refine cE.out.mono ?_
    rintro e w7 ⟨rfl, hb7⟩
    go_wp2
    go_ret
    exact ⟨rfl, b6.trans (hb7.mono b6.size)⟩
  · have hd : decide ((300 : Int) < (s.length : Int)) = true := decide_eq_true (by omega)
    clear hg hev
    go_enter Tryz.func4, Tryz.ntmps4
    go_wp2
    go_ret
    exact ⟨rfl, Below.refl _ _⟩
theorem keysReads_row (s : ByteArray) (low high : Int) (w : World) (hs : s.size ≤ maxLen) (m0 : -9223372036854775808 ≤ low) (m1 : low ≤ 9223372036854775807) (g0 : -9223372036854775808 ≤ high) (g1 : high ≤ 9223372036854775807) (hL : laidMetH Tryz.prog Rows.keysReadsRow.laid w) :
    Calls Tryz.prog 4 #[.string s, .int .i64 low, .int .i64 high] w fun e w' => e = .returned (.bool true) ∧ Below w.heap.size w w' := by
  have := keysReads_law s.data.toList low high w m0 m1 g0 g1 (cardBase.etype_of_laid (by simp [Rows.keysReadsRow]) hL)
    ⟨ifaceAt_of_laid (L := Rows.keysReadsRow.laid) (name := "strconv.ErrSyntax") (nm := "*errors.errorString") (d := .ptr (.agg [.lit (.string [105, 110, 118, 97, 108, 105, 100, 32, 115, 121, 110, 116, 97, 120])])) (by kernel_rfl) (by kernel_rfl) (by kernel_rfl) Tryz.underlying28 hL, ifaceAt_of_laid (L := Rows.keysReadsRow.laid) (name := "strconv.ErrRange") (nm := "*errors.errorString") (d := .ptr (.agg [.lit (.string [118, 97, 108, 117, 101, 32, 111, 117, 116, 32, 111, 102, 32, 114, 97, 110, 103, 101])])) (by kernel_rfl) (by kernel_rfl) (by kernel_rfl) Tryz.underlying28 hL⟩
  rwa [bs_data] at this
end Go.Proofs.YtmdnkmeekfkkhaaGreatDoor
