/- Pairs as text, by the document; what a law takes for too much. -/
import Derived.Test.YtbbnnhaboegedaaDoorPairRightR
import Derived.Test.YtbbnnhaboegedaaDoorPairPrint
namespace Go.Proofs.YtbbnnhaboegedaaDoor
open Go.RowKit
set_option linter.unusedVariables false
set_option maxRecDepth 100000
theorem faultIs_any (k : Nat) (pl : Int) (w : World) :
    Calls Tryd.prog 39 #[faultV k pl] w fun e w' => e = .returned (.bool (decide (k = 0))) ∧ Below w.heap.size w w' := by
  unfold faultV
  by_cases hk : k = 0
  · subst hk
    go_enter Tryd.func39, Tryd.ntmps39
    go_wp2
    go_ret
    exact ⟨rfl, (Below.refl _ _).alloc (Nat.le_refl _) _⟩
  · have hb : ((k : Int) == 0) = false := by rw [beq_eq_false_iff_ne]; omega
    rw [decide_eq_false hk]
    clear hk
    go_enter Tryd.func39, Tryd.ntmps39
    go_wp2
    go_ret
    exact ⟨rfl, (Below.refl _ _).alloc (Nat.le_refl _) _⟩
def PPrintRPost (l : PL) (w : World) (e : Ending) (w' : World) : Prop :=
  e = .returned (.tuple #[.string (bs (if (pairsR l).1 = 0 then pairsB l else [])), faultV (pairsR l).1 (pairsR l).2]) ∧ Below w.heap.size w w'
def RPPrintR (l : PL) (w w1 : World) (s i : Value) (wr : World) : Prop :=
  ∃ (k : Nat) (acc : List UInt8), k ≤ l.length ∧ acc.length ≤ 400 * k ∧ i = .int .i64 (k : Nat) ∧ s = .string (bs acc) ∧ pairsB l = acc ++ pairsB (l.drop k) ∧ Below w1.heap.size w1 wr
set_option maxHeartbeats 4000000 in
theorem rpairs_any (v : Value) (l : PL) (w : World) (h : PSl w v l) (hbd : PBd l) :
    Calls Tryd.prog 11 #[v] w fun e w' => PPrintRPost l w e w' := by
  have c1 := fun w1 (hb : Below w.heap.size w w1) => hid (rpairsRight_any v l w1 (h.below hb) hbd)
  have hb0 : Below w.heap.size w (w.alloc (.cells #[.int .i64 0, .int .i64 0] 28)) := (Below.refl _ _).alloc (Nat.le_refl _) _
  have hblk0 := heap_alloc_new w (.cells #[.int .i64 0, .int .i64 0] 28)
  have Hblk0 := hid hblk0; clear hblk0
  have c3 := fun k pl w => hid (faultIs_any k pl w)
  unfold PRightRPost at c1
  unfold PPrintRPost
  by_cases hz : (pairsR l).1 = 0
  · obtain ⟨hR, h60, hlen⟩ := pairsR_zero l hz
    rw [hR] at c1 ⊢
    rw [if_pos rfl]
    clear hz
    have HR := hid hR; clear hR
    rcases h.open_ with ⟨rfl, a, c, rfl⟩ | ⟨h0, b, o, c, rfl, hbl, hcell⟩
    · clear h hlen
      go_enter Tryd.func11, Tryd.ntmps11
      go_wp2_with fail
      refine (c1 _ hb0).out.mono ?_; rintro e w1 ⟨rfl, hb1⟩
      have hA := (Below.refl w1.heap.size w1).alloc (Nat.le_refl _) (.cells #[.int .i64 0, .int .i64 (-1)] 28)
      have hsz1 : w.heap.size < w1.heap.size := Nat.lt_of_lt_of_le (by simp) hb1.size
      unfold faultV
      go_wp2_with fail
      refine (c3 0 (-1) _).out.mono ?_; rintro e w2 ⟨rfl, hb2⟩
      go_wp2
      refine wp_loop_rounds 1 ?_
      rw [rounds_succ]
      have hbC := (hA.trans (hb2.mono hA.size))
      have hblk2 := (hbC.block w.heap.size hsz1).trans ((hb1.block _ (by simp)).trans Hblk0.out)
      have hsz2 : w.heap.size < w2.heap.size := Nat.lt_of_lt_of_le hsz1 hbC.size
      have Hblk2 := hid hblk2; clear hblk2
      go_wp2_with (go_at_call 40; refine (good_any _).mono ?_; rintro e w3 ⟨rfl, hb3⟩; have hb3' := (hb3.block _ hsz2).trans Hblk2.out; have q0 : w3.cell? ⟨w.heap.size, 0, none⟩ = some (.int .i64 0) := by { rw [cell_of_row _ _ _ _ _ _ hb3']; rfl }; have q1 : w3.cell? ⟨w.heap.size, 1, none⟩ = some (.int .i64 0) := by { rw [cell_of_row _ _ _ _ _ _ hb3']; rfl }; have f0 := frozen_of_row w3 w.heap.size 0 _ _ hb3'; have f1 := frozen_of_row w3 w.heap.size 1 _ _ hb3'; clear hb3')
      refine bodyPost_ret (v := .tuple #[.string (bs []), .agg #[.int .i64 0, .int .i64 (-1)]]) (by simp [results, Tryd.results11, go_sem, q0, q1]; rfl) rfl ?_
      refine ⟨rfl, ?_⟩
      have hbD := (hb0.trans (hb1.mono hb0.size))
      have hbE := hbD.trans (hbC.mono hbD.size)
      exact ((hbE.trans (hb3.mono hbE.size)).setCell (Nat.le_refl _) _).setCell (Nat.le_refl _) _
    clear h
    have Hcell := hid hcell; clear hcell
    have Hlen := hid hlen; clear hlen
    have e61 : (⟨#[61]⟩ : ByteArray) = bs [61] := rfl
    have e00 : (⟨#[0]⟩ : ByteArray) = bs [0] := rfl
    go_enter Tryd.func11, Tryd.ntmps11
    go_wp2_with fail
    refine (c1 _ hb0).out.mono ?_; rintro e w1 ⟨rfl, hb1⟩
    have hA := (Below.refl w1.heap.size w1).alloc (Nat.le_refl _) (.cells #[.int .i64 0, .int .i64 (-1)] 28)
    have hsz1 : w.heap.size < w1.heap.size := Nat.lt_of_lt_of_le (by simp) hb1.size
    unfold faultV
    go_wp2_with fail
    refine (c3 0 (-1) _).out.mono ?_; rintro e w2 ⟨rfl, hb2⟩
    go_wp2
    have hbC := (hA.trans (hb2.mono hA.size))
    have hblk2 := (hbC.block w.heap.size hsz1).trans ((hb1.block _ (by simp)).trans Hblk0.out)
    have hsz2 : w.heap.size < w2.heap.size := Nat.lt_of_lt_of_le hsz1 hbC.size
    have hbD := (hb0.trans (hb1.mono hb0.size))
    have hbE := hbD.trans (hbC.mono hbD.size)
    have Hblk2 := hid hblk2; clear hblk2 hA hb1 hb2 hbC hbD
    have hbl2 : b < w2.heap.size := Nat.lt_of_lt_of_le hbl hbE.size
    go_loopw [5, 16] (fun s i wr => RPPrintR l w w2 s i wr) (fun _ i _ => l.length - (intOf i).toNat)
    case atStart => exact ⟨0, [], by omega, by simp, rfl, rfl, rfl, Below.refl _ _⟩
    case round =>
      obtain ⟨k, acc, hk, hac, rfl, rfl, heq, hb⟩ := hrel
      have hsz := hb.size
      by_cases hlt : k < l.length
      · obtain ⟨c0, c1⟩ := Hcell.out k hlt
        have g0 := (hb.cell (p := ⟨b, o + k * 2, none⟩) hbl2).trans ((hbE.cell (p := ⟨b, o + k * 2, none⟩) hbl).trans c0)
        have g1 := (hb.cell (p := ⟨b, o + k * 2 + 1, none⟩) hbl2).trans ((hbE.cell (p := ⟨b, o + k * 2 + 1, none⟩) hbl).trans c1)
        obtain ⟨hd0, hd1⟩ := Hlen.out k
        rw [pairsB_drop l k hlt] at heq
        clear c0 c1
        generalize l.getD k ([], []) = x at *
        obtain ⟨x1, x2⟩ := x
        simp only at *
        have Heq := hid heq; clear heq
        have n1 : ¬ 9223372036854775807 < x1.length + 1 := by omega
        have n2 : ¬ 9223372036854775807 < x1.length + (1 + x2.length) := by omega
        have n3 : ¬ 9223372036854775807 < x1.length + (1 + (x2.length + 1)) := by omega
        have n4 : ¬ 9223372036854775807 < acc.length + (x1.length + (1 + (x2.length + 1))) := by omega
        go_wp2
        go_roundw
        case rel => exact ⟨k + 1, acc ++ (x1 ++ (61 :: (x2 ++ [0]))), by omega, by simp; omega, by go_num, by simp, by rw [Heq.out]; simp, hb.alloc hsz _⟩
        case measure => simp [intOf]; omega
      · obtain rfl : k = l.length := by omega
        have Heq := hid heq; clear heq
        have hsz3 := Nat.lt_of_lt_of_le hsz2 hsz
        have Hblk3 := hid ((hb.block _ hsz2).trans Hblk2.out)
        go_wp2_with (go_at_call 40; refine (good_any _).mono ?_; rintro e w3 ⟨rfl, hb3⟩; have hb3' := (hb3.block _ hsz3).trans Hblk3.out; have q0 : w3.cell? ⟨w.heap.size, 0, none⟩ = some (.int .i64 0) := by { rw [cell_of_row _ _ _ _ _ _ hb3']; rfl }; have q1 : w3.cell? ⟨w.heap.size, 1, none⟩ = some (.int .i64 0) := by { rw [cell_of_row _ _ _ _ _ _ hb3']; rfl }; have f0 := frozen_of_row w3 w.heap.size 0 _ _ hb3'; have f1 := frozen_of_row w3 w.heap.size 1 _ _ hb3'; clear hb3')
        refine bodyPost_ret (v := .tuple #[.string (bs acc), .agg #[.int .i64 0, .int .i64 (-1)]]) (by simp [results, Tryd.results11, go_sem, q0, q1]) rfl ?_
        have hbF := hbE.trans (hb.mono hbE.size)
        refine ⟨?_, ((hbF.trans (hb3.mono hbF.size)).setCell (Nat.le_refl _) _).setCell (Nat.le_refl _) _⟩
        rw [Heq.out, List.drop_length, pairsB, List.append_nil]; rfl
  · rw [if_neg hz]
    generalize (pairsR l).1 = k at *
    generalize (pairsR l).2 = pl at *
    go_enter Tryd.func11, Tryd.ntmps11
    go_wp2_with fail
    refine (c1 _ hb0).out.mono ?_; rintro e w1 ⟨rfl, hb1⟩
    have c3 := fun w => c3 k pl w
    rw [decide_eq_false hz] at c3
    have hA := (Below.refl w1.heap.size w1).alloc (Nat.le_refl _) (.cells #[.int .i64 k, .int .i64 pl] 28)
    have hblkA := heap_alloc_new w1 (.cells #[.int .i64 k, .int .i64 pl] 28)
    have HblkA := hid hblkA; clear hblkA
    have hsz1 : w.heap.size < w1.heap.size := Nat.lt_of_lt_of_le (by simp) hb1.size
    unfold faultV at *
    clear hz
    go_wp2_with fail
    refine (c3 _).out.mono ?_; rintro e w2 ⟨rfl, hb2⟩
    have hbC := (hA.trans (hb2.mono hA.size))
    have hblk2 := (hbC.block w.heap.size hsz1).trans ((hb1.block _ (by simp)).trans Hblk0.out)
    have hblk3 := (hb2.block w1.heap.size (by simp)).trans HblkA.out
    have q0 : w2.cell? ⟨w.heap.size, 0, none⟩ = some (.int .i64 0) := by rw [cell_of_row _ _ _ _ _ _ hblk2]; rfl
    have q1 : w2.cell? ⟨w.heap.size, 1, none⟩ = some (.int .i64 0) := by rw [cell_of_row _ _ _ _ _ _ hblk2]; rfl
    have f0 : w2.frozen? ⟨w.heap.size, 0, none⟩ = false := frozen_of_row _ _ _ _ _ hblk2
    have f1 : w2.frozen? ⟨w.heap.size, 1, none⟩ = false := frozen_of_row _ _ _ _ _ hblk2
    have p0 : w2.cell? ⟨w1.heap.size, 0, none⟩ = some (.int .i64 k) := by rw [cell_of_row _ _ _ _ _ _ hblk3]; rfl
    have p1 : w2.cell? ⟨w1.heap.size, 1, none⟩ = some (.int .i64 pl) := by rw [cell_of_row _ _ _ _ _ _ hblk3]; rfl
    clear hblk2 hblk3
    go_wp2
    go_still_tail 2, (by kernel_rfl)
    change wpList _ _ _ _ _ w2.drew
    go_wp2
    refine bodyPost_ret (v := .tuple #[.string (bs []), .agg #[.int .i64 k, .int .i64 pl]]) (by simp [results, Tryd.results11, go_sem, q0, q1]; rfl) rfl ?_
    have hbD := (hb0.trans (hb1.mono hb0.size))
    have hbE := hbD.trans (hbC.mono hbD.size)
    exact ⟨rfl, ((hbE.drew).setCell (Nat.le_refl _) _).setCell (Nat.le_refl _) _⟩
def WideP (w : World) (e : Ending) (w' : World) : Prop := (∃ b : Bool, e = .returned (.bool b)) ∧ Below w.heap.size w w'
def RThick (l : PL) (w : World) (sum i : Value) (wr : World) : Prop :=
  ∃ (k : Nat) (m : Int), k ≤ l.length ∧ i = .int .i64 (k : Nat) ∧ sum = .int .i64 m ∧ Below w.heap.size w wr
theorem thick_any (v : Value) (l : PL) (w : World) (h : PSl w v l) (hbd : PBd l) :
    Calls Tryd.prog 10 #[v] w fun e w' => WideP w e w' := by
  obtain ⟨hn, hlen⟩ := hbd
  rcases h.open_ with ⟨rfl, a, c, rfl⟩ | ⟨h0, b, o, c, rfl, hbl, hcell⟩
  · clear h hlen
    go_enter Tryd.func10, Tryd.ntmps10
    go_wp2
    refine wp_loop_rounds 1 ?_
    rw [rounds_succ]
    go_wp2
    go_ret
    exact ⟨⟨_, rfl⟩, Below.refl _ _⟩
  clear h
  have Hcell := hid hcell; clear hcell
  have Hlen := hid hlen; clear hlen
  go_enter Tryd.func10, Tryd.ntmps10
  go_wp2
  go_loopw [3, 10] (fun sum i wr => RThick l w sum i wr) (fun _ i _ => l.length - (intOf i).toNat)
  case atStart => exact ⟨0, _, by omega, rfl, rfl, Below.refl _ _⟩
  case round =>
    obtain ⟨k, m, hk, rfl, rfl, hb⟩ := hrel
    have hB := hb.size
    by_cases hlt : k < l.length
    · obtain ⟨c0, c1⟩ := Hcell.out k hlt
      have g0 := (hb.cell (p := ⟨b, o + k * 2, none⟩) hbl).trans c0
      have g1 := (hb.cell (p := ⟨b, o + k * 2 + 1, none⟩) hbl).trans c1
      obtain ⟨hd0, hd1⟩ := Hlen.out k
      clear c0 c1
      generalize l.getD k ([], []) = x at *
      obtain ⟨x1, x2⟩ := x
      simp only at *
      go_wp2
      go_roundw
      case rel => exact ⟨k + 1, _, by omega, by go_num, rfl, hb.alloc hB _⟩
      case measure => simp [intOf]; omega
    · go_wp2
      go_ret
      exact ⟨⟨_, rfl⟩, hb⟩
end Go.Proofs.YtbbnnhaboegedaaDoor
