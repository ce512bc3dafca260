/- Additional headers: what bytes are, by the document. -/
import Derived.Test.YtfeenkofnbefaaaGreatDoorAhs
import Derived.Test.YtfeenkofnbefaaaGreatDoorCount
import Derived.Test.YtfeenkofnbefaaaGreatDoorHeadWrPure
set_option linter.unusedSectionVars false
set_option linter.unusedSimpArgs false
set_option linter.unusedVariables false
namespace Go.Proofs.YtfeenkofnbefaaaGreatDoor
open Go.RowKit
set_option linter.unusedVariables false
set_option maxRecDepth 100000
def AhsRPost (l : List UInt8) (w : World) (e : Ending) (w' : World) : Prop :=
  (∃ v, e = .returned (.tuple #[v, faultV (ahsP (l.length + 1) l 0).2.1 (ahsP (l.length + 1) l 0).2.2]) ∧
      Sl w' v 2 (if (ahsP (l.length + 1) l 0).2.1 = 0 then (ahsP (l.length + 1) l 0).1.length else 0) (if (ahsP (l.length + 1) l 0).2.1 = 0 then ahsCells (ahsP (l.length + 1) l 0).1 else [])) ∧ Below w.heap.size w w'
def RAhsR (l : List UInt8) (w : World) (v at_ : Value) (wr : World) : Prop :=
  ∃ (k f : Nat) (xs : List (Nat × List UInt8)), k ≤ l.length ∧ l.length - k < f ∧ 4 * xs.length ≤ k ∧ at_ = .int .i64 (k : Nat) ∧
    ahsP (l.length + 1) l 0 = (xs ++ (ahsP f (l.drop k) k).1, (ahsP f (l.drop k) k).2) ∧ wr.ownsRow (w.heap.size + 1) 124 2 v xs.length (ahsCells xs) ∧ Below w.heap.size w wr ∧ w.heap.size < wr.heap.size ∧
    wr.heap[w.heap.size]? = some (.cells #[.int .i64 0, .int .i64 0] 72 (0, 0))
set_option maxHeartbeats 4000000 in
theorem rahsRead_any (l : List UInt8) (w : World) (hl : l.length ≤ 1020) :
    Calls Tryz.prog 78 #[.string (bs l)] w fun e w' => AhsRPost l w e w' := by
  go_enter Tryz.func78, Tryz.ntmps78
  go_wp2
  go_loopw [4, 5] (fun v at_ wr => RAhsR l w v at_ wr) (fun _ at_ _ => l.length - (intOf at_).toNat)
  case atStart => exact ⟨0, l.length + 1, [], by omega, by omega, by simp, rfl, by simp, by exact World.ownsRow_nil _ _ _ _, (Below.refl _ _).alloc (Nat.le_refl _) _, by simp, heap_alloc_new _ _⟩
  case round =>
    obtain ⟨k, f, xs, hk, hf, hx, rfl, heq, hown, hb, hsz, hblk⟩ := hrel
    obtain ⟨f, rfl⟩ : ∃ g, f = g + 1 := ⟨f - 1, by omega⟩
    have hB := hb.size
    have hrl : (l.drop k).length = l.length - k := by simp
    have hc0 : wr.cell? ⟨w.heap.size, 0, none⟩ = some (.int .i64 0) := by rw [cell_of_row _ _ _ _ _ _ hblk]; rfl
    have hc1 : wr.cell? ⟨w.heap.size, 1, none⟩ = some (.int .i64 0) := by rw [cell_of_row _ _ _ _ _ _ hblk]; rfl
    have hf0 : wr.frozen? ⟨w.heap.size, 0, none⟩ = false := frozen_of_row _ _ _ _ _ hblk
    have hf1 : wr.frozen? ⟨w.heap.size, 1, none⟩ = false := frozen_of_row _ _ _ _ _ hblk
    by_cases h0 : l.length - k = 0
    · have e : ahsP (f + 1) (l.drop k) k = ([], 0, -1) := by rw [ahsP, if_pos (by omega)]
      rw [e] at heq
      simp only [List.append_nil] at heq
      have Heq := hid heq; clear heq e
      obtain rfl : k = l.length := by omega
      have Hblk := hid hblk; clear hblk
      go_wp2_with (go_at_call 60; refine (good_any _).mono ?_; rintro e w1 ⟨rfl, hb1⟩; have hc0 := (hb1.cell (p := ⟨w.heap.size, 0, none⟩) hsz).trans hc0; have hc1 := (hb1.cell (p := ⟨w.heap.size, 1, none⟩) hsz).trans hc1; have hf0 := (hb1.frozen (p := ⟨w.heap.size, 0, none⟩) hsz).trans hf0; have hf1 := (hb1.frozen (p := ⟨w.heap.size, 1, none⟩) hsz).trans hf1)
      refine bodyPost_ret (v := .tuple #[u4, .agg #[.int .i64 0, .int .i64 (-1)]]) (by simp [results, Tryz.results78, go_sem, hc0, hc1]) rfl ?_
      refine ⟨⟨u4, by rw [Heq.out]; rfl, ?_⟩, ((hb.trans (hb1.mono hB)).setCell (Nat.le_refl _) _).setCell (Nat.le_refl _) _⟩
      rw [Heq.out]
      exact sl_of_owns (ownsRow_setCell_below (ownsRow_setCell_below (owns_below hown hb1) (by simp) _) (by simp) _)
    · by_cases h3 : l.length - k < 3
      · have e : ahsP (f + 1) (l.drop k) k = ([], 7, ((k : Nat) : Int)) := by rw [ahsP, if_neg (by omega), if_pos (by omega)]
        rw [e] at heq
        simp only [List.append_nil] at heq
        have Heq := hid heq; clear heq e
        have Hblk := hid hblk; clear hblk
        go_wp2
        refine bodyPost_ret (v := .tuple #[.slice none 0 0, .agg #[.int .i64 7, .int .i64 (k : Nat)]]) (by simp [results, Tryz.results78, go_sem, hc0, hc1]) rfl ?_
        refine ⟨⟨_, by rw [Heq.out]; rfl, ?_⟩, (hb.setCell (Nat.le_refl _) _).setCell (Nat.le_refl _) _⟩
        rw [Heq.out]; exact sl_nil _ _
      · have hn := num2_lt (l.drop k)
        have hk0 : k < l.length := by omega
        have hk1 : k + 1 < l.length := by omega
        have hk2 : k + 2 < l.length := by omega
        have hnum : num ((l.drop k).take 2) = l[k].toNat * 256 + l[k + 1].toNat := by
          rw [List.drop_eq_getElem_cons hk0, List.drop_eq_getElem_cons hk1]; simp only [List.take_succ_cons, List.take_zero, num, List.foldl_cons, List.foldl_nil]; omega
        have b0 := l[k].toNat_lt
        have b1 := l[k + 1].toNat_lt
        have s1 : IntKind.i64.wrap ((k : Int) + 1) = (k : Int) + 1 := by rw [IntKind.wrap_i64]; omega
        have s2 : IntKind.i64.wrap (256 * (l[k].toNat : Int)) = 256 * (l[k].toNat : Int) := by rw [IntKind.wrap_i64]; omega
        have s3 : IntKind.i64.wrap (256 * (l[k].toNat : Int) + (l[k + 1].toNat : Int)) = 256 * (l[k].toNat : Int) + (l[k + 1].toNat : Int) := by rw [IntKind.wrap_i64]; omega
        have s4 : ((k : Int) + 1).toNat = k + 1 := by omega
        have s5 : IntKind.i64.wrap (l[k].toNat : Int) = (l[k].toNat : Int) := by rw [IntKind.wrap_i64]; omega
        have s6 : IntKind.i64.wrap (l[k + 1].toNat : Int) = (l[k + 1].toNat : Int) := by rw [IntKind.wrap_i64]; omega
        have i0 : (k : Int) < (l.length : Int) := by omega
        have i1 : (k : Int) + 1 < (l.length : Int) := by omega
        have i2 : (0 : Int) ≤ (k : Int) + 1 := by omega
        have hnI : 256 * (l[k].toNat : Int) + (l[k + 1].toNat : Int) = ((num ((l.drop k).take 2) : Nat) : Int) := by rw [hnum]; omega
        clear hnum
        have HnI := hid hnI; clear hnI
        have Hblk := hid hblk; clear hblk
        have c1 := fun w => hid (rpad_nat (3 + num ((l.drop k).take 2)) w (by omega))
        have hp4 := padN_lt (3 + num ((l.drop k).take 2))
        have hp0 : 4 ≤ 3 + num ((l.drop k).take 2) + padN (3 + num ((l.drop k).take 2)) := by unfold padN; omega
        by_cases hfw : (l.drop k).length < 3 + num ((l.drop k).take 2) + padN (3 + num ((l.drop k).take 2))
        · have hu := unpadE_few (l.drop k) _ hfw
          have e : ahsP (f + 1) (l.drop k) k = ([], 7, ((k : Nat) : Int)) := by rw [ahsP, if_neg (by omega), if_neg (by omega), if_neg (by omega), hu]
          rw [e] at heq
          simp only [List.append_nil] at heq
          have Heq := hid heq; clear heq e hu
          go_wp2
          go_quiet (fail)
          rw [HnI.out]
          clear HnI
          generalize num ((l.drop k).take 2) = n at *
          generalize padN (3 + n) = p at *
          go_wp2_with (go_at_call 75; refine (c1 _).out.mono ?_; rintro e w1 ⟨rfl, rfl⟩)
          refine bodyPost_ret (v := .tuple #[.slice none 0 0, .agg #[.int .i64 7, .int .i64 (k : Nat)]]) (by simp [results, Tryz.results78, go_sem, hc0, hc1]) rfl ?_
          refine ⟨⟨_, by rw [Heq.out]; rfl, ?_⟩, ((below_drewN hb _).setCell (Nat.le_refl _) _).setCell (Nat.le_refl _) _⟩
          rw [Heq.out]; exact sl_nil _ _
        · have hX : (l.take (k + 3 + num ((l.drop k).take 2) + padN (3 + num ((l.drop k).take 2)))).drop (k + 3 + num ((l.drop k).take 2)) = ((l.drop k).drop (3 + num ((l.drop k).take 2))).take (padN (3 + num ((l.drop k).take 2))) := by
            rw [List.drop_take, Nat.add_sub_cancel_left, List.drop_drop, Nat.add_assoc]
          have hXl : (((l.drop k).drop (3 + num ((l.drop k).take 2))).take (padN (3 + num ((l.drop k).take 2)))).length = padN (3 + num ((l.drop k).take 2)) := by simp; omega
          have c2 := fun w => hid (count_any (((l.drop k).drop (3 + num ((l.drop k).take 2))).take (padN (3 + num ((l.drop k).take 2)))) w (by omega))
          have hcz := count_zero (((l.drop k).drop (3 + num ((l.drop k).take 2))).take (padN (3 + num ((l.drop k).take 2))))
          rw [hXl] at hcz
          by_cases hz : ((l.drop k).drop (3 + num ((l.drop k).take 2))).take (padN (3 + num ((l.drop k).take 2))) = List.replicate (padN (3 + num ((l.drop k).take 2))) 0
          · have hu : unpadE (l.drop k) (3 + num ((l.drop k).take 2) : Nat) = 0 := unpadE_ok (l.drop k) _ (by omega) hz
            have e : ahsP (f + 1) (l.drop k) k = ((((l.drop k).getD 2 0).toNat, ((l.drop k).take (3 + num ((l.drop k).take 2))).drop 3) :: (ahsP f ((l.drop k).drop (3 + num ((l.drop k).take 2) + padN (3 + num ((l.drop k).take 2)))) (k + (3 + num ((l.drop k).take 2) + padN (3 + num ((l.drop k).take 2))))).1,
              (ahsP f ((l.drop k).drop (3 + num ((l.drop k).take 2) + padN (3 + num ((l.drop k).take 2)))) (k + (3 + num ((l.drop k).take 2) + padN (3 + num ((l.drop k).take 2))))).2) := by rw [ahsP, if_neg (by omega), if_neg (by omega), if_pos hu]
            rw [e, List.drop_drop] at heq
            have hKt : (l.drop k).getD 2 0 = l[k + 2] := by
              rw [List.getD, List.getElem?_eq_getElem (by omega)]; simp
            have hTt : (l.take (k + 3 + num ((l.drop k).take 2))).drop (k + 3) = ((l.drop k).take (3 + num ((l.drop k).take 2))).drop 3 := by
              rw [List.drop_take, List.drop_take, List.drop_drop]; congr 1; omega
            rw [hKt, ← hTt] at heq
            clear hu e hTt hKt
            have hce := hcz.2 hz
            clear hcz hz hXl
            have Heq := hid heq; clear heq
            go_wp2
            go_quiet (fail)
            rw [HnI.out]
            clear HnI
            generalize num ((l.drop k).take 2) = n at *
            generalize padN (3 + n) = p at *
            generalize ((l.drop k).drop (3 + n)).take p = X at *
            generalize List.count 0 X = c at *
            have hcb : ((c : Int) != (p : Int)) = false := by rw [bne_eq_false_iff_eq]; omega
            go_wp2_with first
              | (go_at_call 75; refine (c1 _).out.mono ?_; rintro e w1 ⟨rfl, rfl⟩)
              | (go_at_call 110; refine (c2 _).out.mono ?_; rintro e w1 ⟨rfl, rfl⟩)
            have i2' : (0 : Int) ≤ (k : Int) + 2 := by omega
            have hK2 : (k : Int) + 2 < (l.length : Int) := by omega
            have t2 : IntKind.i64.wrap ((k : Int) + 2) = (k : Int) + 2 := by rw [IntKind.wrap_i64]; omega
            have t4 : ((k : Int) + 2).toNat = k + 2 := by omega
            have t7 : IntKind.i64.wrap ((k : Int) + 3) = (k : Int) + 3 := by rw [IntKind.wrap_i64]; omega
            have t8 : IntKind.i64.wrap ((k : Int) + 3 + n) = (k : Int) + 3 + n := by rw [IntKind.wrap_i64]; omega
            have t9 : 0 ≤ (k : Int) + 3 + n ∧ (k : Int) + 3 + n ≤ l.length := by omega
            have t10 : 0 ≤ (k : Int) + 3 ∧ (k : Int) + 3 ≤ (k : Int) + 3 + n := by omega
            have t5 : ((k : Int) + 3).toNat = k + 3 := by omega
            have t6 : ((k : Int) + 3 + n).toNat = k + 3 + n := by omega
            have t3 : IntKind.i64.wrap (l[k + 2].toNat : Int) = (l[k + 2].toNat : Int) := by have := l[k + 2].toNat_lt; rw [IntKind.wrap_i64]; omega
            have hown2 : (wr.drewN nq).ownsRow (w.heap.size + 1) 124 2 u4 xs.length (ahsCells xs) := hown
            have hb2 : Below w.heap.size w (wr.drewN nq) := below_drewN hb _
            have hblk2 : (wr.drewN nq).heap[w.heap.size]? = some (.cells #[.int .i64 0, .int .i64 0] 72 (0, 0)) := Hblk.out
            have hsz2 : w.heap.size < (wr.drewN nq).heap.size := hsz
            generalize wr.drewN nq = w2 at *
            go_region_law (refine step_append_own rfl (.tmp 65) (.tmp 80) 38 rfl (w.heap.size + 1) 124 (.agg #[.int .i64 0, .string ⟨#[]⟩]) 2 24 Tryz.underlying38 infoAhs rfl (by decide) u4 xs.length (ahsCells xs) (by simp [Act.eval]) (hown2.alloc _) ⟨w2.heap.size, 0, none⟩ 1 1 [.int .i64 (l[k + 2].toNat : Nat), .string (bs ((l.take (k + 3 + n)).drop (k + 3)))] (by simp [Act.eval]) rfl (cell_two_new _ _ _ _) (by simp [Value.oneCell']) (by unfold maxLen; omega) (by omega) (by simp; have := hb2.size; omega) ?_; intro v' w3 hown3 hgrow _)
            simp only [List.getElem_toArray, List.getElem_cons_succ, List.getElem_cons_zero, Act.put, List.setIfInBounds_toArray, List.set_cons_succ, List.set_cons_zero]
            go_wp2
            go_roundw
            case rel =>
              refine ⟨k + (3 + n + p), f, xs ++ [(l[k + 2].toNat, (l.take (k + 3 + n)).drop (k + 3))], by omega, by omega, by simp; omega, by go_num, ?_, ?_, ?_, ?_, ?_⟩
              · rw [Heq.out]; simp
              · rw [ahsCells_snoc, List.length_append]; exact hown3
              · exact ((hb2.alloc hb2.size _).drew).grown hgrow (by have := hb2.size; simp; omega) (fun k hk => by have := (hown2.lt k hk).1; omega)
              · have := hgrow.size; simp at this; omega
              · rw [hgrow.block w.heap.size (by simp; omega) (by intro h; have := (hown2.lt _ h.symm).1; omega)]
                exact (Below.heap_alloc w2 _ _ hsz2).trans hblk2
            case measure => simp [intOf]; omega
          · have hu := unpadE_bad (l.drop k) _ (by omega) hz
            have e : ahsP (f + 1) (l.drop k) k = ([], 3, ((k : Nat) : Int)) := by rw [ahsP, if_neg (by omega), if_neg (by omega), if_neg (by omega), hu]
            rw [e] at heq
            simp only [List.append_nil] at heq
            have Heq := hid heq; clear heq e hu
            have hcne : ¬ List.count 0 (((l.drop k).drop (3 + num ((l.drop k).take 2))).take (padN (3 + num ((l.drop k).take 2)))) = padN (3 + num ((l.drop k).take 2)) := fun h => hz (hcz.1 h)
            clear hcz hz hXl
            go_wp2
            go_quiet (fail)
            rw [HnI.out]
            clear HnI
            generalize num ((l.drop k).take 2) = n at *
            generalize padN (3 + n) = p at *
            generalize ((l.drop k).drop (3 + n)).take p = X at *
            generalize List.count 0 X = c at *
            have hcb : ((c : Int) != (p : Int)) = true := by rw [bne_iff_ne]; omega
            go_wp2_with first
              | (go_at_call 75; refine (c1 _).out.mono ?_; rintro e w1 ⟨rfl, rfl⟩)
              | (go_at_call 110; refine (c2 _).out.mono ?_; rintro e w1 ⟨rfl, rfl⟩)
            refine bodyPost_ret (v := .tuple #[.slice none 0 0, .agg #[.int .i64 3, .int .i64 (k : Nat)]]) (by simp [results, Tryz.results78, go_sem, hc0, hc1]) rfl ?_
            refine ⟨⟨_, by rw [Heq.out]; rfl, ?_⟩, ((below_drewN hb _).setCell (Nat.le_refl _) _).setCell (Nat.le_refl _) _⟩
            rw [Heq.out]; exact sl_nil _ _
end Go.Proofs.YtfeenkofnbefaaaGreatDoor
