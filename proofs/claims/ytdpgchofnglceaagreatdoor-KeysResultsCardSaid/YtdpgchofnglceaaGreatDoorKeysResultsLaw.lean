/- The walk of the law KeysResults: it returns true. -/
import Derived.Test.YtdpgchofnglceaaGreatDoorResultR
import Derived.Test.YtdpgchofnglceaaGreatDoorSplitPure
import Derived.Test.YtdpgchofnglceaaGreatDoorTell
namespace Go.Proofs.YtdpgchofnglceaaGreatDoor
open Go Go.RowKit
set_option linter.unusedVariables false
set_option linter.unusedSectionVars false
set_option linter.unusedSimpArgs false
set_option maxRecDepth 100000
set_option maxHeartbeats 4000000 in
theorem keysResults_law (name offer own : List UInt8) (w : World) (hr1 : name.length ≤ 140737488355328) (hr2 : offer.length ≤ 140737488355328) (hr3 : own.length ≤ 140737488355328)
    (hg : EType w) (hT : AS w) (hP : PT w) (hev : EV w) (hM : ML w) :
    Calls Tryz.prog 6 #[.string (bs name), .string (bs offer), .string (bs own)] w fun e w' => e = .returned (.bool true) ∧ Below w.heap.size w w' := by
  have hw1 : IntKind.i64.wrap ((name.length : Int) + (offer.length : Int)) = (name.length : Int) + (offer.length : Int) := by rw [IntKind.wrap_i64]; omega
  have hw2 : IntKind.i64.wrap ((name.length : Int) + (offer.length : Int) + (own.length : Int)) = (name.length : Int) + (offer.length : Int) + (own.length : Int) := by rw [IntKind.wrap_i64]; omega
  by_cases hs : name.length + offer.length + own.length ≤ 600
  · have hd : decide ((600 : Int) < (name.length : Int) + (offer.length : Int) + (own.length : Int)) = false := decide_eq_false (by omega)
    have c1 := hid (rresult_any name offer own w (by omega) (by omega) hP hM)
    have c2 := fun w1 (hb : Below w.heap.size w w1) => hid (result_any name offer own w1 (by omega) (by omega) (hT.below hb (Nat.le_refl _)) (hP.below hb (Nat.le_refl _)) (hev.below hb))
    have c3 := fun w1 (hb : Below w.heap.size w w1) => hid (fits_any name offer w1 (by omega) (hT.below hb (Nat.le_refl _)) (hev.below hb))
    have c4 := fun w1 => hid (rfits_any name offer w1 (by omega))
    have cb := fun k w1 (hb : Below w.heap.size w w1) => hid (bare_ok (errV 22 k) k w1 (hg.below hb) (ErrIs.errV w1 k))
    generalize resP name offer own = R at *
    obtain ⟨r, rk⟩ := R
    generalize fitsP name offer = F at *
    simp only at c1 c2
    have CB1 := hid (cb rk); have CB2 := hid (cb F)
    clear cb hg hev hT hP hM
    have he1 : (errV 22 rk).cells = #[errV 22 rk] := by unfold errV; split <;> rfl
    have he2 : (errV 22 F).cells = #[errV 22 F] := by unfold errV; split <;> rfl
    generalize errV 22 rk = ev1 at *
    generalize errV 22 F = ev2 at *
    go_enter Tryz.func6, Tryz.ntmps6
    go_wp2_with fail
    refine c1.out.mono ?_
    rintro e w1 ⟨rfl, hb1⟩
    go_wp2_with fail
    refine (c2 _ hb1).out.mono ?_
    rintro e w2 ⟨rfl, hb2⟩
    have b2 := hb1.trans (hb2.mono hb1.size)
    go_wp2_with fail
    refine (CB1.out _ b2).out.mono ?_
    rintro e w3 ⟨rfl, hb3⟩
    have b3 := b2.trans (hb3.mono b2.size)
    go_wp2_with fail
    refine (c3 _ b3).out.mono ?_
    rintro e w4 ⟨rfl, hb4⟩
    have b4 := b3.trans (hb4.mono b3.size)
    go_wp2_with fail
    refine (c4 _).out.mono ?_
    rintro e w5 ⟨rfl, hb5⟩
    have b5 := b4.trans (hb5.mono b4.size)
    go_wp2_with fail
    refine (CB2.out _ b5).out.mono ?_
    rintro e w6 ⟨rfl, hb6⟩
    have b6 := b5.trans (hb6.mono b5.size)
    go_wp2
    go_ret
    exact ⟨rfl, b6⟩
  · have hd : decide ((600 : Int) < (name.length : Int) + (offer.length : Int) + (own.length : Int)) = true := decide_eq_true (by omega)
    clear hg hev hT hP hM
    go_enter Tryz.func6, Tryz.ntmps6
    go_wp2
    go_ret
    exact ⟨rfl, Below.refl _ _⟩
theorem reach_str {H : Type} {P : Program} {ts : List TypeId} {ds : List (DataW H)} (h : (DataW.weightsEach P ts ds).all (· ≤ reachBytes) = true) {j : Nat} {t : TypeId} {s : ByteArray} (ht : ts[j]? = some t) (hd : ds[j]? = some (.lit (.string s.data.toList))) : s.size ≤ 140737488355328 := by
  have h1 : ∀ n ∈ (DataW.lit (H := H) (.string s.data.toList)).weights P t, n ≤ reachBytes := fun n hn => by simpa using List.all_eq_true.1 h n (DataW.weights_mem_each ht hd n hn)
  have := h1 s.data.toList.length (by simp [DataW.weights])
  have hre : reachBytes ≤ 140737488355328 := by decide
  have h2 : s.data.toList.length = s.size := by simp
  omega
theorem keysResults_row (name offer own : ByteArray) (w : World) (h0 : name.size ≤ 140737488355328) (h1 : offer.size ≤ 140737488355328) (h2 : own.size ≤ 140737488355328) (hL : laidMetH Tryz.prog Rows.keysResultsRow.laid w) (hsh : w.ShapedOpen Tryz.prog) :
    Calls Tryz.prog 6 #[.string name, .string offer, .string own] w fun e w' => e = .returned (.bool true) ∧ Below w.heap.size w w' := by
  have := keysResults_law name.data.toList offer.data.toList own.data.toList w (by simpa using h0) (by simpa using h1) (by simpa using h2) (cardBase.etype_of_laid (by simp [Rows.keysResultsRow]) hL)
    (cardBase.tab_of_laid (n := 256) (t := 267) (e := 5) (L := Rows.keysResultsRow.laid) (by kernel_rfl) asName (by kernel_rfl) Tryz.underlying267 Tryz.underlying5 (by kernel_rfl) (by kernel_rfl) hL)
    (cardBase.tab_of_laid (n := 20) (t := 329) (e := 118) (L := Rows.keysResultsRow.laid) (by kernel_rfl) ptName (by kernel_rfl) Tryz.underlying329 Tryz.underlying118 (by kernel_rfl) (by kernel_rfl) hL)
    ⟨ifaceAt_of_laid (L := Rows.keysResultsRow.laid) (name := "strconv.ErrSyntax") (nm := "*errors.errorString") (d := .ptr (.agg [.lit (.string [105, 110, 118, 97, 108, 105, 100, 32, 115, 121, 110, 116, 97, 120])])) (by kernel_rfl) (by kernel_rfl) (by kernel_rfl) Tryz.underlying28 hL, ifaceAt_of_laid (L := Rows.keysResultsRow.laid) (name := "strconv.ErrRange") (nm := "*errors.errorString") (d := .ptr (.agg [.lit (.string [118, 97, 108, 117, 101, 32, 111, 117, 116, 32, 111, 102, 32, 114, 97, 110, 103, 101])])) (by kernel_rfl) (by kernel_rfl) (by kernel_rfl) Tryz.underlying28 hL⟩
    (ml_of_shaped hsh)
  rwa [bs_data, bs_data, bs_data] at this
end Go.Proofs.YtdpgchofnglceaaGreatDoor
