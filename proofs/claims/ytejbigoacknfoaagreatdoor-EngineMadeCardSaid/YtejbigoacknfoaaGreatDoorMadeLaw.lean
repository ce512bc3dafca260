/- The walk of the law EngineMade: it returns true. -/
import Derived.Test.YtejbigoacknfoaaGreatDoorMadeR
import Derived.Test.YtejbigoacknfoaaGreatDoorListsOpen
set_option linter.unusedSectionVars false
set_option linter.unusedSimpArgs false
set_option linter.unusedVariables false
namespace Go.Proofs.YtejbigoacknfoaaGreatDoor
open Go Go.RowKit
set_option linter.unusedVariables false
set_option linter.unusedSectionVars false
set_option linter.unusedSimpArgs false
set_option maxRecDepth 100000
set_option maxHeartbeats 8000000 in
theorem engineMade_law (name : List UInt8) (now : Bool) (flags : Int) (nv vv : Value) (ns : List (List UInt8)) (vs : List Nat) (d : List UInt8) (mode : Int) (w : World) (hnl0 : name.length ≤ 9223372036854775807) (g0 : -9223372036854775808 ≤ flags) (g1 : flags ≤ 9223372036854775807)
    (hns : Sl w nv 1 ns.length (strCells ns)) (hnn : ns.length ≤ 140737488355328) (hnl : ∀ s ∈ ns, s.length ≤ 9223372036854775807) (hvs : Sl w vv 1 vs.length (u64Cells vs)) (hvn : vs.length ≤ 140737488355328) (hv : ∀ x ∈ vs, x ≤ 18446744073709551615)
    (hdl : d.length ≤ 9223372036854775807) (m0 : -9223372036854775808 ≤ mode) (m1 : mode ≤ 9223372036854775807) (hg : EType w) (hT : AS w) (hP : PT w) :
    Calls Tryz.prog 6 #[.string (bs name), .bool now, .int .i64 flags, nv, vv, .string (bs d), .int .i64 mode] w fun e w' => e = .returned (.bool true) ∧ Below w.heap.size w w' := by
  have hw : IntKind.i64.wrap ((ns.length : Int) + (vs.length : Int)) = (ns.length : Int) + (vs.length : Int) := by rw [IntKind.wrap_i64]; omega
  by_cases h50 : 50 < name.length
  · have hd : decide ((50 : Int) < (name.length : Int)) = true := decide_eq_true (by omega)
    obtain ⟨na, nc, rfl, _⟩ := hns
    obtain ⟨va, vc, rfl, _⟩ := hvs
    clear hv hnl hT hP hg
    go_enter Tryz.func6, Tryz.ntmps6
    go_wp2
    go_ret
    exact ⟨rfl, Below.refl _ _⟩
  have hd5 : decide ((50 : Int) < (name.length : Int)) = false := decide_eq_false (by omega)
  by_cases h60 : 60 < ns.length + vs.length
  · have hd : decide ((60 : Int) < (ns.length : Int) + (vs.length : Int)) = true := decide_eq_true (by omega)
    obtain ⟨na, nc, rfl, _⟩ := hns
    obtain ⟨va, vc, rfl, _⟩ := hvs
    clear hv hnl hT hP hg
    go_enter Tryz.func6, Tryz.ntmps6
    go_wp2
    go_ret
    exact ⟨rfl, Below.refl _ _⟩
  have hd6 : decide ((60 : Int) < (ns.length : Int) + (vs.length : Int)) = false := decide_eq_false (by omega)
  by_cases h20 : 2000 < d.length
  · have hd : decide ((2000 : Int) < (d.length : Int)) = true := decide_eq_true (by omega)
    obtain ⟨na, nc, rfl, _⟩ := hns
    obtain ⟨va, vc, rfl, _⟩ := hvs
    clear hv hnl hT hP hg
    go_enter Tryz.func6, Tryz.ntmps6
    go_wp2
    go_ret
    exact ⟨rfl, Below.refl _ _⟩
  have hd2 : decide ((2000 : Int) < (d.length : Int)) = false := decide_eq_false (by omega)
  have c1 := hid (rmade_any name now flags nv vv ns vs d mode w g0 g1 (by omega) (by omega) hv hnl hns hvs (by omega) m0 m1 hg hT hP)
  have c2 := fun w1 (hb : Below w.heap.size w w1) => hid (made_any name now flags nv vv ns vs d mode w1 g0 g1 (by omega) (by omega) hv (hns.below (Nat.le_refl _) hb) (hvs.below (Nat.le_refl _) hb) (by omega) m0 m1 (hg.below hb) (hT.below hb (Nat.le_refl _)) (hP.below hb (Nat.le_refl _)))
  unfold MadeRPost faultV at c1
  unfold MadePost at c2
  obtain ⟨na, nc, rfl, _⟩ := hns
  obtain ⟨va, vc, rfl, _⟩ := hvs
  generalize madeP name now flags ns vs d mode = R at *
  obtain ⟨L, rk, rp⟩ := R
  simp only at c1 c2
  have HG := hid hg; clear hg hT hP hv hnl
  go_enter Tryz.func6, Tryz.ntmps6
  go_wp2_with fail
  refine c1.out.mono ?_
  rintro e w1 ⟨rfl, hb1⟩
  have E1 := Blk.new w1 24 #[.int .i64 (rk : Int), .int .i64 rp]
  have hA1 := (Below.refl w1.heap.size w1).alloc (Nat.le_refl _) (.cells #[.int .i64 (rk : Int), .int .i64 rp] 24)
  have b1 := hb1.trans (hA1.mono hb1.size)
  go_wp2_with fail
  refine (c2 _ b1).out.mono ?_
  rintro e w2 ⟨ev, rfl, her, hb2⟩
  have HER := hid her
  have E2 := E1.below hb2
  have b2 := b1.trans (hb2.mono b1.size)
  have c3 := hid (placed_ok ev rk rp _ (HG.out.below b2) HER.out)
  have p0 := (E2.cell 0).trans (rfl : _ = some (Value.int .i64 (rk : Int)))
  have p1 := (E2.cell 1).trans (rfl : _ = some (Value.int .i64 rp))
  clear c1 c2 her
  go_wp2_with fail
  refine c3.out.mono ?_
  rintro e w3 ⟨rfl, hb3⟩
  have b3 := b2.trans (hb3.mono b2.size)
  have hll : (L == L) = true := by simp
  clear E1 E2 p0 p1
  go_wp2
  go_ret
  exact ⟨rfl, b3⟩
theorem engineMade_row (name : ByteArray) (now : Bool) (flags : Int) (nv vv : Value) (ns : List (List UInt8)) (vs : List Nat) (d : ByteArray) (mode : Int) (w : World) (h0 : name.size ≤ maxLen) (g0 : -9223372036854775808 ≤ flags ∧ flags ≤ 9223372036854775807)
    (hns : Sl w nv 1 ns.length (strCells ns)) (hnn : ns.length ≤ 140737488355328) (hnl : ∀ s ∈ ns, s.length ≤ 9223372036854775807) (hvs : Sl w vv 1 vs.length (u64Cells vs)) (hvn : vs.length ≤ 140737488355328) (hv : ∀ x ∈ vs, x ≤ 18446744073709551615)
    (hd : d.size ≤ maxLen) (hm : -9223372036854775808 ≤ mode ∧ mode ≤ 9223372036854775807) (hL : laidMetH Tryz.prog Rows.engineMadeRow.laid w) :
    Calls Tryz.prog 6 #[.string name, .bool now, .int .i64 flags, nv, vv, .string d, .int .i64 mode] w fun e w' => e = .returned (.bool true) ∧ Below w.heap.size w w' := by
  have h1 : name.data.toList.length = name.size := by simp
  have h2 : d.data.toList.length = d.size := by simp
  unfold maxLen at h0 hd
  have := engineMade_law name.data.toList now flags nv vv ns vs d.data.toList mode w (by omega) g0.1 g0.2 hns hnn hnl hvs hvn hv (by omega) hm.1 hm.2 (cardBase.etype_of_laid (by simp [Rows.engineMadeRow]) hL)
    (cardBase.tab_of_laid (n := 256) (t := 328) (e := 5) (L := Rows.engineMadeRow.laid) (by kernel_rfl) asName (by kernel_rfl) Tryz.underlying328 Tryz.underlying5 (by kernel_rfl) (by kernel_rfl) hL)
    (cardBase.tab_of_laid (n := 20) (t := 348) (e := 161) (L := Rows.engineMadeRow.laid) (by kernel_rfl) ptName (by kernel_rfl) Tryz.underlying348 Tryz.underlying161 (by kernel_rfl) (by kernel_rfl) hL)
  rwa [bs_data, bs_data] at this
end Go.Proofs.YtejbigoacknfoaaGreatDoor
