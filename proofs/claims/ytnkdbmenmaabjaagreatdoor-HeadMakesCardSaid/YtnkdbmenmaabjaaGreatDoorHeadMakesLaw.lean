/- The walk of the law HeadMakes: it returns true. -/
import Derived.Test.YtnkdbmenmaabjaaGreatDoorHeadMkR
import Derived.Test.YtnkdbmenmaabjaaGreatDoorSameHead
import Derived.Test.YtnkdbmenmaabjaaGreatDoorHeadArg
import Derived.SliceStrings
namespace Go.Proofs.YtnkdbmenmaabjaaGreatDoor
open Go Go.RowKit Go.ChangeShapes Go.WideShapes Go.Joins
set_option linter.unusedVariables false
set_option linter.unusedSectionVars false
set_option linter.unusedSimpArgs false
set_option maxRecDepth 100000
set_option maxHeartbeats 4000000 in
theorem headMakes_law (op flags : Int) (nv vv : Value) (ns : List (List UInt8)) (vs : List Nat) (w : World) (h0 : -9223372036854775808 ≤ op) (h1 : op ≤ 9223372036854775807) (g0 : -9223372036854775808 ≤ flags) (g1 : flags ≤ 9223372036854775807)
    (hns : Sl w nv 1 ns.length (strCells ns)) (hnn : ns.length ≤ 140737488355328) (hnl : ∀ s ∈ ns, s.length ≤ 9223372036854775807) (hvs : Sl w vv 1 vs.length (u64Cells vs)) (hvn : vs.length ≤ 140737488355328) (hv : ∀ x ∈ vs, x ≤ 18446744073709551615)
    (hg : EType w) (hT : AS w) (hP : PT w) :
    Calls Tryz.prog 4 #[.int .i64 op, .int .i64 flags, nv, vv] w fun e w' => e = .returned (.bool true) ∧ Below w.heap.size w w' := by
  have hw : IntKind.i64.wrap ((ns.length : Int) + (vs.length : Int)) = (ns.length : Int) + (vs.length : Int) := by rw [IntKind.wrap_i64]; omega
  by_cases h60 : 60 < ns.length + vs.length
  · have hd : decide ((60 : Int) < (ns.length : Int) + (vs.length : Int)) = true := decide_eq_true (by omega)
    obtain ⟨na, nc, rfl, _⟩ := hns
    obtain ⟨va, vc, rfl, _⟩ := hvs
    clear hv hnl hT hP hg
    go_enter Tryz.func4, Tryz.ntmps4
    go_wp2
    go_ret
    exact ⟨rfl, Below.refl _ _⟩
  · have hd : decide ((60 : Int) < (ns.length : Int) + (vs.length : Int)) = false := decide_eq_false (by omega)
    have c1 := hid (rmake_any op flags nv vv ns vs w h0 h1 g0 g1 (by omega) (by omega) hv hnl hns hvs)
    have c2 := fun w1 (hb : Below w.heap.size w w1) => hid (make_any op flags nv vv ns vs w1 h0 h1 g0 g1 (by omega) (by omega) hv (hns.below (Nat.le_refl _) hb) (hvs.below (Nat.le_refl _) hb) (hT.below hb (Nat.le_refl _)) (hP.below hb (Nat.le_refl _)))
    have hrl : (makeH op flags ns vs).2.2.length ≤ 12 := by
      unfold makeH
      cases hf : findH op with
      | none => simp
      | some r =>
        have h12 := (head_fine r (findH_mem hf)).2.2.2.2.2.2.1
        have hlen : ∀ (l : List (List UInt8)) (i : Nat) (g : List UInt8 → Nat), (mkG r.fields vs l i g).2.length ≤ r.fields.length := by
          intro l
          induction l with
          | nil => intro i g; simp [mkG]
          | cons n l ih =>
            intro i g
            rw [mkG]
            split
            · simp
            · split
              · simp
              · exact ih _ _
        have := hlen ns 0 fun _ => 0
        simp only
        split
        · simp
        · split
          · simp
          · simp only; omega
    unfold MakeRPost at c1
    unfold MakePost at c2
    obtain ⟨na, nc, rfl, _⟩ := hns
    obtain ⟨va, vc, rfl, _⟩ := hvs
    generalize makeH op flags ns vs = R at *
    obtain ⟨rk, rp, xs⟩ := R
    simp only at c1 c2 hrl
    generalize (if rk = 0 then op else 0) = rop at *
    generalize (if rk = 0 then flags else 0) = rfl' at *
    have HG := hid hg; clear hg hT hP hv hnl
    unfold faultV at c1
    go_enter Tryz.func4, Tryz.ntmps4
    go_wp2_with fail
    refine c1.out.mono ?_
    rintro e w1 ⟨va1, rfl, hs1, hb1⟩
    have HS1 := hid hs1
    obtain ⟨a1, k1, rfl, _⟩ := hs1
    have B1 := (Blk.new w1 37 #[.int .i64 rop, .bool false, .int .i64 rfl', .slice a1 xs.length k1]).below ((Below.refl _ _).alloc (Nat.le_refl _) (.cells #[.int .i64 (rk : Int), .int .i64 rp] 24))
    have E1 := Blk.new (w1.alloc (.cells #[.int .i64 rop, .bool false, .int .i64 rfl', .slice a1 xs.length k1] 37)) 24 #[.int .i64 (rk : Int), .int .i64 rp]
    simp only [World.size_alloc] at E1
    have hA1 := ((Below.refl w1.heap.size w1).alloc (Nat.le_refl _) (.cells #[.int .i64 rop, .bool false, .int .i64 rfl', .slice a1 xs.length k1] 37)).alloc (by simp) (.cells #[.int .i64 (rk : Int), .int .i64 rp] 24)
    have b1 := hb1.trans (hA1.mono hb1.size)
    have HS1 := hid (HS1.out.below (Nat.le_refl _) hA1)
    unfold headV
    go_wp2_with fail
    refine (c2 _ b1).out.mono ?_
    rintro e w2 ⟨vb, ev, rfl, her, hs2, hb2⟩
    have HS2 := hid hs2
    have HER := hid her
    obtain ⟨a2, k2, rfl, _⟩ := hs2
    have B2 := B1.below hb2
    have E2 := E1.below hb2
    have HS1 := hid (HS1.out.below (Nat.le_refl _) hb2)
    have B3 := Blk.new w2 37 #[.int .i64 rop, .bool false, .int .i64 rfl', .slice a2 xs.length k2]
    have hA2 := (Below.refl w2.heap.size w2).alloc (Nat.le_refl _) (.cells #[.int .i64 rop, .bool false, .int .i64 rfl', .slice a2 xs.length k2] 37)
    have B4 := B2.below hA2
    have E4 := E2.below hA2
    have HS1 := hid (HS1.out.below (Nat.le_refl _) hA2)
    have HS2 := hid (HS2.out.below (Nat.le_refl _) hA2)
    have HER := hid (HER.out.below hA2)
    have b2 := (b1.trans (hb2.mono b1.size))
    have b3 := b2.trans (hA2.mono b2.size)
    have c3 := hid (placed_ok ev rk rp _ (HG.out.below b3) HER.out)
    have p0 := (E4.cell 0).trans (rfl : _ = some (Value.int .i64 (rk : Int)))
    have p1 := (E4.cell 1).trans (rfl : _ = some (Value.int .i64 rp))
    have p0' := (E2.cell 0).trans (rfl : _ = some (Value.int .i64 (rk : Int)))
    have p1' := (E2.cell 1).trans (rfl : _ = some (Value.int .i64 rp))
    clear c1 c2 her
    unfold headV
    go_wp2_with fail
    refine c3.out.mono ?_
    rintro e w3 ⟨rfl, hb3⟩
    have B5 := B4.below hb3
    have B6 := B3.below hb3
    have c4 := hid (sameHead_true rop false rfl' _ _ xs w3 (by omega) (HS1.out.below (Nat.le_refl _) hb3) (HS2.out.below (Nat.le_refl _) hb3))
    have t0 : w3.cell? ⟨w1.heap.size, 0, none⟩ = some (.int .i64 rop) := (B5.cell 0).trans rfl
    have t1 : w3.cell? ⟨w1.heap.size, 1, none⟩ = some (.bool false) := (B5.cell 1).trans rfl
    have t2 : w3.cell? ⟨w1.heap.size, 2, none⟩ = some (.int .i64 rfl') := (B5.cell 2).trans rfl
    have t3 : w3.cell? ⟨w1.heap.size, 3, none⟩ = some (.slice a1 xs.length k1) := (B5.cell 3).trans rfl
    have y0 : w3.cell? ⟨w2.heap.size, 0, none⟩ = some (.int .i64 rop) := (B6.cell 0).trans rfl
    have y1 : w3.cell? ⟨w2.heap.size, 1, none⟩ = some (.bool false) := (B6.cell 1).trans rfl
    have y2 : w3.cell? ⟨w2.heap.size, 2, none⟩ = some (.int .i64 rfl') := (B6.cell 2).trans rfl
    have y3 : w3.cell? ⟨w2.heap.size, 3, none⟩ = some (.slice a2 xs.length k2) := (B6.cell 3).trans rfl
    have b4 := b3.trans (hb3.mono b3.size)
    unfold headV at c4
    clear B1 B2 B3 B4 B5 B6 E1 E2 E4 p0 p1 p0' p1'
    go_wp2_with fail
    refine c4.out.mono ?_
    rintro e w4 ⟨rfl, hb4⟩
    go_wp2
    go_ret
    exact ⟨rfl, b4.trans (hb4.mono b4.size)⟩
theorem reach_each {H : Type} {P : Program} {ts : List TypeId} {ds : List (DataW H)} (h : (DataW.weightsEach P ts ds).all (· ≤ reachBytes) = true) {j : Nat} {t : TypeId} {d : DataW H} (ht : ts[j]? = some t) (hd : ds[j]? = some d) : ∀ n ∈ d.weights P t, n ≤ reachBytes :=
  fun n hn => by simpa using List.all_eq_true.1 h n (DataW.weights_mem_each ht hd n hn)
theorem names_open {H : Type} {enc : TypeId × Value → H} {W : World} {fuel : Nat} {a0 : Option Addr} {len cap : Nat} {x : DataW H × List MemPlace}
    (h : DataW.trod enc Tryz.prog W 0 (fun _ => true) true fuel 34 (Value.slice a0 len cap).cells.toList = some x) (hw : ∀ n ∈ x.1.weights Tryz.prog 34, n ≤ reachBytes) :
    ∃ ns : List (List UInt8), Sl W (.slice a0 len cap) 1 ns.length (strCells ns) ∧ ns.length ≤ 140737488355328 ∧ ∀ s ∈ ns, s.length ≤ 9223372036854775807 := by
  have cs : Tryz.prog.cellsOf 9 = 1 := by kernel_rfl
  have bsz : Tryz.prog.bytesOf 9 = 16 := by kernel_rfl
  have hre : reachBytes ≤ 140737488355328 := by decide
  rcases open_strings Tryz.underlying34 Tryz.underlying9 cs h with ⟨hc, _⟩ | ⟨a, l, c, ss, hc, _, hl, hm, hz, hx, hcell, hsz⟩
  · simp [Value.cells] at hc
    obtain ⟨rfl, rfl, rfl⟩ := hc
    exact ⟨[], sl_nil W 1, by simp, by simp⟩
  · simp [Value.cells] at hc
    obtain ⟨rfl, rfl, rfl⟩ := hc
    simp only [if_true] at hz
    have hwt := hw (((strs (H := H) (ss.take len)).length + (strs (H := H) (ss.drop len)).length) * Tryz.prog.bytesOf 9) (by
      rw [hx]
      simp only [DataW.weights, Tryz.underlying34]
      exact List.mem_cons_self)
    rw [bsz] at hwt
    have hls : (strs (H := H) (ss.take len)).length + (strs (H := H) (ss.drop len)).length = ss.length := by
      simp [strs]; omega
    rw [hls] at hwt
    have hln : ((ss.take len).map fun s => s.data.toList).length = len := by simp; omega
    refine ⟨(ss.take len).map fun s => s.data.toList, ?_, by rw [hln]; omega, ?_⟩
    · rw [hln]
      refine ⟨some a, cap, rfl, by simp [strCells]; omega, ?_⟩
      by_cases h0 : len = 0
      · exact .inl h0
      · right
        obtain ⟨ab, ao, asp⟩ := a
        have hsp : asp = none := by simpa [Addr.add] using World.cell?_spot (hcell 0 (by omega))
        subst hsp
        refine ⟨ab, ao, rfl, fun j u hu => ?_⟩
        have hj : j < len := by
          have := (List.getElem?_eq_some_iff.1 hu).1
          simp [strCells] at this; omega
        have hc := hcell j (by omega)
        rw [show (⟨ab, ao, none⟩ : Addr).add j = ⟨ab, ao + j, none⟩ by unfold Addr.add; split <;> simp <;> omega] at hc
        rw [hc]
        have hjz : j < ss.length := by omega
        rw [strCells, List.getElem?_map, List.getElem?_map, List.getElem?_take, if_pos hj, List.getElem?_eq_getElem hjz] at hu
        simp only [Option.map_some, Option.some.injEq] at hu
        rw [← hu, List.getD, List.getElem?_eq_getElem hjz]
        simp [bs_data]
    · intro s hs
      obtain ⟨t, ht, rfl⟩ := List.mem_map.1 hs
      have := hsz t (List.mem_of_mem_take ht)
      unfold maxLen at this
      simpa using this
theorem nums_open {H : Type} {enc : TypeId × Value → H} {W : World} {fuel : Nat} {a0 : Option Addr} {len cap : Nat} {x : DataW H × List MemPlace}
    (h : DataW.trod enc Tryz.prog W 0 (fun _ => true) true fuel 35 (Value.slice a0 len cap).cells.toList = some x) (hw : ∀ n ∈ x.1.weights Tryz.prog 35, n ≤ reachBytes) :
    ∃ vs : List Nat, Sl W (.slice a0 len cap) 1 vs.length (u64Cells vs) ∧ vs.length ≤ 140737488355328 ∧ ∀ x ∈ vs, x ≤ 18446744073709551615 := by
  have cu : Tryz.prog.cellsOf 66 = 1 := by kernel_rfl
  have bsz : Tryz.prog.bytesOf 66 = 8 := by kernel_rfl
  have hre : reachBytes ≤ 140737488355328 := by decide
  rcases open_ints Tryz.underlying35 Tryz.underlying66 cu h with ⟨hc, _⟩ | ⟨a, l, c, zs, hc, _, hl, hm, hz, hx, hcell, hwf⟩
  · simp [Value.cells] at hc
    obtain ⟨rfl, rfl, rfl⟩ := hc
    exact ⟨[], sl_nil W 1, by simp, by simp⟩
  · simp [Value.cells] at hc
    obtain ⟨rfl, rfl, rfl⟩ := hc
    simp only [if_true] at hz
    have hwt := hw (((lits (H := H) .u64 (zs.take len)).length + (lits (H := H) .u64 (zs.drop len)).length) * Tryz.prog.bytesOf 66) (by
      rw [hx]
      simp only [DataW.weights, Tryz.underlying35]
      exact List.mem_cons_self)
    rw [bsz] at hwt
    have hls : (lits (H := H) .u64 (zs.take len)).length + (lits (H := H) .u64 (zs.drop len)).length = zs.length := by
      simp [lits]; omega
    rw [hls] at hwt
    obtain ⟨vs, hvl, hvb, hsl⟩ := u64_of_ints (cap := cap) (len := len) (by omega) hcell (fun n hn => by
      have := hwf n hn
      have h2 : IntKind.u64.min ≤ n ∧ n ≤ IntKind.u64.max := by simpa [Lit.wf] using this
      have e1 : IntKind.u64.min = 0 := by decide
      have e2 : IntKind.u64.max = 18446744073709551615 := by decide
      omega)
    subst hvl
    exact ⟨vs, hsl, by omega, hvb⟩
theorem headMakes_row (op flags : Int) (nv vv : Value) (ns : List (List UInt8)) (vs : List Nat) (w : World) (h0 : -9223372036854775808 ≤ op ∧ op ≤ 9223372036854775807) (g0 : -9223372036854775808 ≤ flags ∧ flags ≤ 9223372036854775807)
    (hns : Sl w nv 1 ns.length (strCells ns)) (hnn : ns.length ≤ 140737488355328) (hnl : ∀ s ∈ ns, s.length ≤ 9223372036854775807) (hvs : Sl w vv 1 vs.length (u64Cells vs)) (hvn : vs.length ≤ 140737488355328) (hv : ∀ x ∈ vs, x ≤ 18446744073709551615)
    (hL : laidMetH Tryz.prog Rows.headMakesRow.laid w) :
    Calls Tryz.prog 4 #[.int .i64 op, .int .i64 flags, nv, vv] w fun e w' => e = .returned (.bool true) ∧ Below w.heap.size w w' :=
  headMakes_law op flags nv vv ns vs w h0.1 h0.2 g0.1 g0.2 hns hnn hnl hvs hvn hv (cardBase.etype_of_laid (by simp [Rows.headMakesRow]) hL)
    (cardBase.tab_of_laid (n := 256) (t := 162) (e := 5) (L := Rows.headMakesRow.laid) (by kernel_rfl) asName (by kernel_rfl) Tryz.underlying162 Tryz.underlying5 (by kernel_rfl) (by kernel_rfl) hL)
    (cardBase.tab_of_laid (n := 20) (t := 189) (e := 66) (L := Rows.headMakesRow.laid) (by kernel_rfl) ptName (by kernel_rfl) Tryz.underlying189 Tryz.underlying66 (by kernel_rfl) (by kernel_rfl) hL)
end Go.Proofs.YtnkdbmenmaabjaaGreatDoor
