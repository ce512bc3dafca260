/- nego's New, by the document. -/
import Derived.Test.YtfeenkofnbefaaaGreatDoorClone
import Derived.Test.YtfeenkofnbefaaaGreatDoorFits
import Derived.Test.YtfeenkofnbefaaaGreatDoorFaultIs
import Derived.Test.YtfeenkofnbefaaaGreatDoorSeen
import Derived.StillTailTactics
import Derived.Test.YtfeenkofnbefaaaGreatDoorResPure
import Derived.Test.YtfeenkofnbefaaaGreatDoorChecked
set_option linter.unusedSectionVars false
set_option linter.unusedSimpArgs false
set_option linter.unusedVariables false
namespace Go.Proofs.YtfeenkofnbefaaaGreatDoor
open Go Go.RowKit
set_option linter.unusedVariables false
set_option linter.unusedSectionVars false
set_option linter.unusedSimpArgs false
set_option maxRecDepth 100000
theorem findP_has (l : PL) (key : List UInt8) : (findP l key).2 = (l.map (·.1)).contains key := by
  induction l with
  | nil => rfl
  | cons p l ih =>
    rw [findP, List.map_cons, List.contains_cons]
    by_cases h : p.1 = key
    · rw [if_pos h, h]; simp
    · rw [if_neg h, ih, beq_eq_false_iff_ne.2 (fun e => h e.symm), Bool.false_or]
/-- a Nego of the document's, that nothing came of yet -/
def RNegoAt (w : World) (B g : Nat) (v : Value) : Prop := B ≤ g ∧ w.heap[g]? = some (.cells #[v, .slice none 0 0] 95 (0, 0))
def RNegoPost (v : Value) (l : PL) (w : World) (e : Ending) (w' : World) : Prop :=
  (∃ p, e = .returned (.tuple #[.pointer p, faultV (negoP l).1 (negoP l).2]) ∧ ((negoP l).1 ≠ 0 → p = none) ∧ ((negoP l).1 = 0 → ∃ g, p = some ⟨g, 0, none⟩ ∧ RNegoAt w' w.heap.size g v)) ∧ Below w.heap.size w w'
/-- the result's block is as it was laid -/
def ResF (p : Nat) (w : World) : Prop := w.heap[p]? = some (.cells #[.int .i64 0, .int .i64 0] 72 (0, 0))
theorem ResF.c0 {p : Nat} {w : World} (h : ResF p w) : w.cell? ⟨p, 0, none⟩ = some (.int .i64 0) := by rw [cell_of_row _ _ _ _ _ _ h]; rfl
theorem ResF.c1 {p : Nat} {w : World} (h : ResF p w) : w.cell? ⟨p, 1, none⟩ = some (.int .i64 0) := by rw [cell_of_row _ _ _ _ _ _ h]; rfl
theorem ResF.f0 {p : Nat} {w : World} (h : ResF p w) : w.frozen? ⟨p, 0, none⟩ = false := frozen_of_row _ _ _ _ _ h
theorem ResF.f1 {p : Nat} {w : World} (h : ResF p w) : w.frozen? ⟨p, 1, none⟩ = false := frozen_of_row _ _ _ _ _ h
theorem ResF.lt {p : Nat} {w : World} (h : ResF p w) : p < w.heap.size := (Array.getElem?_eq_some_iff.1 h).1
theorem ResF.below {p : Nat} {w w' : World} (h : ResF p w) (hb : Below w.heap.size w w') : ResF p w' := (hb.block p h.lt).trans h
def RNewR (l : PL) (w : World) (b : Nat) (i : Value) (wr : World) : Prop :=
  ∃ (k : Nat) (seen : List (List UInt8)), k ≤ l.length ∧ i = .int .i64 (k : Nat) ∧ Hid (∀ y, seen.contains y = ((l.take k).map (·.1)).contains y) ∧ Hid (GoodAhead l k) ∧ SeenM wr b k seen ∧ ResF w.heap.size wr ∧ Below w.heap.size w wr ∧ b < wr.heap.size
section
variable (v : Value) (l : PL) (w : World) (h : PSl w v l) (hbd : PBd l) (hn : l.length ≤ 100000) (hsz : ∀ k, (l.getD k ([], [])).2.length ≤ 100000) (hP : PT w)
include h hbd hn hsz hP
set_option maxHeartbeats 8000000 in
theorem rnew_any : Calls Tryz.prog 27 #[v] w fun e w' => RNegoPost v l w e w' := by
  have hA := (Below.refl w.heap.size w).alloc (Nat.le_refl _) (.cells #[.int .i64 0, .int .i64 0] 72)
  have F0 : ResF w.heap.size (w.alloc (.cells #[.int .i64 0, .int .i64 0] 72)) := heap_alloc_new _ _
  have cp := hid (rpairsRight_any v l _ (h.below hA) hbd)
  unfold PRightRPost faultV at cp
  have cis := fun k pl W => hid (faultIs_any k pl W)
  unfold faultV at cis
  have HF := hid F0; have HA := hid hA
  clear F0 hA
  go_enter Tryz.func27, Tryz.ntmps27
  go_wp2_with fail
  refine cp.out.mono ?_
  rintro e w1 ⟨rfl, hb1⟩
  have F1 := HF.out.below hb1
  have b1 := HA.out.trans (hb1.mono HA.out.size)
  have hp1 := F1.lt
  have bB := b1.alloc b1.size (.cells #[.int .i64 ((pairsR l).1 : Nat), .int .i64 (pairsR l).2] 72)
  have F2 : ResF w.heap.size (w1.alloc (.cells #[.int .i64 ((pairsR l).1 : Nat), .int .i64 (pairsR l).2] 72)) := F1.below ((Below.refl _ _).alloc (Nat.le_refl _) _)
  have p0 : (w1.alloc (.cells #[.int .i64 ((pairsR l).1 : Nat), .int .i64 (pairsR l).2] 72)).cell? ⟨w1.heap.size, 0, none⟩ = some (.int .i64 ((pairsR l).1 : Nat)) := by simp
  have p1 : (w1.alloc (.cells #[.int .i64 ((pairsR l).1 : Nat), .int .i64 (pairsR l).2] 72)).cell? ⟨w1.heap.size, 1, none⟩ = some (.int .i64 (pairsR l).2) := by simp
  go_wp2_with fail
  refine (cis _ _ _).out.mono ?_
  rintro e w2 ⟨rfl, hb2⟩
  have F3 := F2.below hb2
  have b2 := bB.trans (hb2.mono bB.size)
  have p0 := (hb2.cell (p := ⟨w1.heap.size, 0, none⟩) (by simp)).trans p0
  have p1 := (hb2.cell (p := ⟨w1.heap.size, 1, none⟩) (by simp)).trans p1
  by_cases hp0 : (pairsR l).1 = 0
  · rw [decide_eq_true hp0]
    have HAT := hid (fun k hk hb ha => negoP_at l k hp0 hk hb ha)
    have HGD := hid (fun ha => negoP_good l hp0 ha)
    have ck := fun k W (hb : Below w.heap.size w W) => hid (rfits_any (l.getD k ([], [])).1 (l.getD k ([], [])).2 W (hsz k))
    have hF := h
    obtain ⟨sa, sc, rfl, _, _⟩ := hF
    have HS := hid h
    have hmm := @run_makeMap Tryz.prog
    have hM0 := SeenM.made w2
    have bM := b2.alloc b2.size (.map #[] 0)
    have FM : ResF w.heap.size (w2.alloc (.map #[] 0)) := F3.below ((Below.refl _ _).alloc (Nat.le_refl _) _)
    have hmb : w2.heap.size < (w2.alloc (.map #[] 0)).heap.size := by simp
    have HM := hid hM0
    have HFM := hid FM
    clear h hsz hP hp0 cp p0 p1 hM0 FM
    go_wp2
    go_loopw [18] (fun i wr => RNewR l w w2.heap.size i wr) (fun i _ => l.length - (intOf i).toNat)
    case atStart => exact ⟨0, [], by omega, rfl, hid (fun y => by simp), hid (fun j hj => absurd hj (by omega)), HM.out, HFM.out, bM, hmb⟩
    case round =>
      obtain ⟨k, seen, hk, rfl, hse, HA, hM, hF, hb, hbb⟩ := hrel
      have hB := hb.size
      have q0 := hF.c0
      have q1 := hF.c1
      have q2 := hF.f0
      have q3 := hF.f1
      by_cases hlt : k < l.length
      · obtain ⟨_, b, o, c, hveq, hbl, hcell⟩ := (HS.out.below hb).open_.resolve_left (by rintro ⟨rfl, _⟩; simp at hlt)
        cases hveq
        obtain ⟨g0, g1⟩ := hcell k hlt
        have hx1 := (hbd.2 k).1
        have HAT := hid (HAT.out k hlt)
        have HGA := hid (fun hk0 => HA.out.step hk0)
        have HGO := hid HA.out
        have hcon : (findP (l.take k) (l.getD k ([], [])).1).2 = seen.contains (l.getD k ([], [])).1 := by rw [findP_has, hse.out]
        have HBK := hid (show badK l k = if seen.contains (l.getD k ([], [])).1 = true then 9 else fitsP (l.getD k ([], [])).1 (l.getD k ([], [])).2 by rw [← hcon]; rfl)
        have HSE := hid (show ∀ y, ((l.getD k ([], [])).1 :: seen).contains y = ((l.take (k + 1)).map (·.1)).contains y from fun y => by
          rw [List.take_succ_eq_append_getElem hlt, List.map_append, List.contains_append, ← hse.out, List.contains_cons, List.getD, List.getElem?_eq_getElem hlt]
          simp only [List.map_cons, List.map_nil, List.contains_cons, List.contains_nil, Bool.or_false, Option.getD_some]
          rw [Bool.or_comm])
        have ck1 := ck k
        clear hcell ck HA hcon hse
        generalize l.getD k ([], []) = x at *
        obtain ⟨x1, x2⟩ := x
        simp only at *
        obtain ⟨W6, hW6⟩ : ∃ W6, wr.alloc (.cells #[.string (bs x1), .string (bs x2)] 77) = W6 := ⟨_, rfl⟩
        have hA6 : Below wr.heap.size wr W6 := by rw [← hW6]; exact (Below.refl _ _).alloc (Nat.le_refl _) _
        have b6 := hb.trans (hA6.mono hB)
        have p0 : W6.cell? ⟨wr.heap.size, 0, none⟩ = some (.string (bs x1)) := by rw [← hW6]; simp
        have p1 : W6.cell? ⟨wr.heap.size, 1, none⟩ = some (.string (bs x2)) := by rw [← hW6]; simp
        have hM6 := MapAs.below hM hA6
        have hF6 := hF.below hA6
        have q0 := hF6.c0
        have q1 := hF6.c1
        have q2 := hF6.f0
        have q3 := hF6.f1
        have hlk := SeenM.look hM6 x1 hx1
        have hwb : w.heap.size ≤ w2.heap.size := b2.size
        cases hcs : seen.contains x1 with
        | true =>
          rw [hcs] at hlk
          have hbk : badK l k = 9 := by rw [HBK.out, hcs]; rfl
          have HE := hid (show negoP l = (9, (k : Int)) by rw [HAT.out (by rw [hbk]; omega) HGO.out, hbk])
          clear hbk HBK HGA HAT HGO HSE hcs
          go_wp2
          refine bodyPost_ret (v := .tuple #[.pointer none, .agg #[.int .i64 9, .int .i64 (k : Nat)]]) (by simp [results, Tryz.results27, go_sem, q0, q1]) rfl ?_
          refine ⟨⟨none, by rw [HE.out]; rfl, fun _ => rfl, fun h0 => absurd (by rw [HE.out] at h0; exact h0) (by omega)⟩, (b6.setCell (p := ⟨w.heap.size, 0, none⟩) (Nat.le_refl _) _).setCell (p := ⟨w.heap.size, 1, none⟩) (Nat.le_refl _) _⟩
        | false =>
          rw [hcs] at hlk
          have hbk : badK l k = fitsP x1 x2 := by rw [HBK.out, hcs]; rfl
          obtain ⟨W7, hput, hM7, hg7⟩ := SeenM.put hM6 (by omega) x1 hx1
          have b7 := b6.grown hg7 b6.size (fun j hj => by cases hj; exact hwb)
          have hne1 : wr.heap.size ≠ w2.heap.size := by omega
          have hs6 : wr.heap.size < W6.heap.size := by rw [← hW6]; simp
          have hblk7 : ∀ g, g < W6.heap.size → g ≠ w2.heap.size → W7.heap[g]? = W6.heap[g]? := fun g hg hne => hg7.block g hg (by simpa using fun e => hne e)
          have cell7 : ∀ g o, g < W6.heap.size → g ≠ w2.heap.size → W7.cell? ⟨g, o, none⟩ = W6.cell? ⟨g, o, none⟩ := fun g o hg hne => by unfold World.cell?; rw [hblk7 g hg hne]
          have p0 := (cell7 wr.heap.size 0 hs6 hne1).trans p0
          have p1 := (cell7 wr.heap.size 1 hs6 hne1).trans p1
          have hlw := hF6.lt
          have hF7 : ResF w.heap.size W7 := (hblk7 w.heap.size hlw (by have := F3.lt; omega)).trans hF6
          have ck2 := ck1 _ b7
          rw [hbk] at HGA HAT
          clear hbk HBK ck1 hcs cell7 hblk7 q0 q1 q2 q3
          generalize fitsP x1 x2 = F at *
          go_wp2_with fail
          refine ck2.out.mono ?_
          rintro e w8 ⟨rfl, hb8⟩
          have b8 := b7.trans (hb8.mono b7.size)
          have hF8 := hF7.below hb8
          have q0 := hF8.c0
          have q1 := hF8.c1
          have q2 := hF8.f0
          have q3 := hF8.f1
          by_cases hFz : F = 0
          · have hfi : ((F : Int) != 0) = false := by simp [hFz]
            have HS2 := hid (HGA.out hFz)
            have hM8 := MapAs.below hM7 hb8
            clear HGA HAT HGO hFz
            go_wp2
            refine ⟨⟨k + 1, x1 :: seen, by omega, by go_num, hid HSE.out, hid HS2.out, hM8, hF8, b8, ?_⟩, by simp [intOf]; omega⟩
            have h1 := hb8.size
            have h2 := hg7.size
            omega
          · have hfi : ((F : Int) != 0) = true := by simp; omega
            have HE := hid (show negoP l = (F, (k : Int)) from HAT.out hFz HGO.out)
            clear HGA HAT HGO
            go_wp2
            refine bodyPost_ret (v := .tuple #[.pointer none, .agg #[.int .i64 (F : Nat), .int .i64 (k : Nat)]]) (by simp [results, Tryz.results27, go_sem, q0, q1]) rfl ?_
            refine ⟨⟨none, by rw [HE.out]; rfl, fun _ => rfl, fun h0 => absurd (by rw [HE.out] at h0; exact h0) hFz⟩, (b8.setCell (p := ⟨w.heap.size, 0, none⟩) (Nat.le_refl _) _).setCell (p := ⟨w.heap.size, 1, none⟩) (Nat.le_refl _) _⟩
      · obtain rfl : k = l.length := by omega
        have HE := hid (HGD.out HA.out)
        have cg := fun w1 => hid (good_any w1)
        have hbN := hb.alloc hB (.cells #[.slice sa l.length sc, .slice none 0 0] 95)
        have hFN := hF.below ((Below.refl wr.heap.size wr).alloc (Nat.le_refl _) (.cells #[.slice sa l.length sc, .slice none 0 0] 95))
        clear q0 q1 q2 q3
        go_wp2_with fail
        refine (cg _).out.mono ?_
        rintro e w9 ⟨rfl, hb9⟩
        have b9 := hbN.trans (hb9.mono hbN.size)
        have hF9 := hFN.below hb9
        have q0 := hF9.c0
        have q1 := hF9.c1
        have q2 := hF9.f0
        have q3 := hF9.f1
        have hN9 := (hb9.block wr.heap.size (by simp)).trans (heap_alloc_new wr (.cells #[.slice sa l.length sc, .slice none 0 0] 95))
        go_wp2
        refine bodyPost_ret (v := .tuple #[.pointer (some ⟨wr.heap.size, 0, none⟩), .agg #[.int .i64 0, .int .i64 (-1)]]) (by simp [results, Tryz.results27, go_sem, q0, q1]) rfl ?_
        have hlw := hF.lt
        refine ⟨⟨some ⟨wr.heap.size, 0, none⟩, by rw [HE.out]; rfl, fun h0 => absurd (by rw [HE.out]) h0, fun _ => ⟨wr.heap.size, rfl, hb.size, ?_⟩⟩, (b9.setCell (p := ⟨w.heap.size, 0, none⟩) (Nat.le_refl _) _).setCell (p := ⟨w.heap.size, 1, none⟩) (Nat.le_refl _) _⟩
        rw [heap_setCell_other _ _ _ _ (by show wr.heap.size ≠ w.heap.size; omega), heap_setCell_other _ _ _ _ (by show wr.heap.size ≠ w.heap.size; omega)]
        exact hN9
  · have HE := hid (negoP_pairs l hp0)
    rw [decide_eq_false hp0]
    have q0 := F3.c0
    have q1 := F3.c1
    have q2 := F3.f0
    have q3 := F3.f1
    go_wp2
    go_still_tail 2, (by kernel_rfl)
    change wpList _ _ _ _ _ w2.drew
    go_wp2
    refine bodyPost_ret (v := .tuple #[.pointer none, .agg #[.int .i64 ((pairsR l).1 : Nat), .int .i64 (pairsR l).2]]) (by simp [results, Tryz.results27, go_sem, q0, q1]) rfl ?_
    refine ⟨⟨none, by rw [HE.out]; rfl, fun _ => rfl, fun h0 => absurd (by rw [HE.out] at h0; exact h0) hp0⟩, (b2.drew.setCell (p := ⟨w.heap.size, 0, none⟩) (Nat.le_refl _) _).setCell (p := ⟨w.heap.size, 1, none⟩) (Nat.le_refl _) _⟩
end
end Go.Proofs.YtfeenkofnbefaaaGreatDoor

namespace Go.Proofs.YtfeenkofnbefaaaGreatDoor
open Go Go.RowKit Go.Maps
set_option linter.unusedVariables false
set_option linter.unusedSectionVars false
set_option linter.unusedSimpArgs false
theorem boolLawY : Keyed Tryz.prog 4 := bool_keyed Tryz.underlying4
theorem zeroStrY (w : World) : (zeroValue 9).run Tryz.prog w = .ok (.string (bs [])) w := by kernel_rfl
theorem elemStrY (s : List UInt8) (h : s.length ≤ 100) : ∃ d p, plainElem (H := Unit) Tryz.prog 9 (.string (bs s)) = some (d, p) :=
  ⟨_, _, plainElem_string Tryz.underlying9 (by rw [bs_size]; unfold maxLen; omega)⟩
def yesT (b : Bool) : List UInt8 := if b then yesL else noL
def yesF1 : Value → Value | .bool true => .string (bs yesL) | _ => .string (bs [])
def yesF2 : Value → Value | .bool true => .string (bs yesL) | .bool false => .string (bs noL) | _ => .string (bs [])
theorem yes_any (b : Bool) (w : World) : Calls Tryz.prog 130 #[.bool b] w fun e w' => e = .returned (.string (bs (yesT b))) ∧ Below w.heap.size w w' := by
  obtain ⟨z, hz⟩ : ∃ z, ∃ p, plainElem (H := Unit) Tryz.prog 9 (.string (bs [])) = some (z, p) := by
    obtain ⟨d, p, h⟩ := elemStrY [] (by simp)
    exact ⟨d, p, h⟩
  obtain ⟨w1, r1, m1, g1⟩ := MapAs.put (T := 310) (MapAs.made (P := Tryz.prog) (K := 4) (E := 9) w (.string (bs [])) z hz) boolLawY Tryz.underlying310 (by unfold maxLen; omega) (keyOf_bool_mk Tryz.underlying4 true) (elemStrY yesL (by decide))
  have m1 := m1 yesF1 rfl (fun v hv => by
    cases v <;> try rfl
    rename_i q
    cases q
    · rfl
    · exact absurd rfl hv)
  obtain ⟨w2, r2, m2, g2⟩ := MapAs.put (T := 310) m1 boolLawY Tryz.underlying310 (by unfold maxLen; omega) (keyOf_bool_mk Tryz.underlying4 false) (elemStrY noL (by decide))
  have m2 := m2 yesF2 rfl (fun v hv => by
    cases v <;> try rfl
    rename_i q
    cases q
    · exact absurd rfl hv
    · rfl)
  have hl := MapAs.look m2 (T := 310) boolLawY Tryz.underlying310 (zeroStrY w2) hz (keyOf_bool_mk Tryz.underlying4 b)
  have hy : (⟨#[89, 101, 115]⟩ : ByteArray) = bs yesL := rfl
  have hn : (⟨#[78, 111]⟩ : ByteArray) = bs noL := rfl
  have hv : yesF2 (.bool b) = .string (bs (yesT b)) := by cases b <;> rfl
  rw [hv] at hl
  have hB : Below w.heap.size w w2 := by
    have h0 := (Below.refl w.heap.size w).alloc (Nat.le_refl _) (.map #[] 0)
    refine ⟨g2.os.trans (g1.os.trans h0.os), g2.tape.trans (g1.tape.trans h0.tape), g2.output.trans (g1.output.trans h0.output), Nat.le_trans h0.size (Nat.le_trans g1.size g2.size), fun k hk => ?_⟩
    have hk1 : k < (w.alloc (.map #[] 0)).heap.size := Nat.lt_of_lt_of_le hk h0.size
    have hne : some k ≠ some w.heap.size := by intro e; cases e; omega
    exact (g2.block k (Nat.lt_of_lt_of_le hk1 g1.size) hne).trans ((g1.block k hk1 hne).trans (h0.block k hk))
  have hmm := @run_makeMap Tryz.prog
  clear m1 m2 g1 g2 hz hv
  go_enter Tryz.func130, Tryz.ntmps130
  go_wp2
  go_ret
  exact ⟨rfl, hB⟩
end Go.Proofs.YtfeenkofnbefaaaGreatDoor
