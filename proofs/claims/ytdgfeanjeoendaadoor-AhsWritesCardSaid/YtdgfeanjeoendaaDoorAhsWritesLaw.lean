/- The walk of the law AhsWrites: it returns true. -/
import Derived.Test.YtdgfeanjeoendaaDoorAhsWrR
import Derived.Test.YtdgfeanjeoendaaDoorCardBase
import Derived.Deep.RegionHeld3
namespace Go.Proofs.YtdgfeanjeoendaaDoor
open Go.RowKit
set_option linter.unusedVariables false
set_option maxRecDepth 100000
def WidePost (w : World) (e : Ending) (w' : World) : Prop := (∃ b : Bool, e = .returned (.bool b)) ∧ Below w.heap.size w w'
def RWide (n : Nat) (w : World) (sum i : Value) (wr : World) : Prop :=
  ∃ (k : Nat) (m : Int), k ≤ n ∧ i = .int .i64 (k : Nat) ∧ sum = .int .i64 m ∧ Below w.heap.size w wr
theorem wide_any (v : Value) (n : Nat) (I : Nat → Int × List UInt8) (w : World) (h : AhsIn w v n I) :
    Calls Tryd.prog 21 #[v] w fun e w' => WidePost w e w' := by
  obtain ⟨hn, hv, hcell⟩ := h
  unfold maxLen at hn
  rcases hv with ⟨rfl, rfl⟩ | ⟨a, cap, rfl⟩
  · go_enter Tryd.func21, Tryd.ntmps21
    go_wp2
    refine wp_loop_rounds 1 ?_
    rw [rounds_succ]
    go_wp2
    go_ret
    exact ⟨⟨_, rfl⟩, Below.refl _ _⟩
  have Hcell := hid (hcell a n cap rfl); clear hcell
  go_enter Tryd.func21, Tryd.ntmps21
  go_wp2
  go_loopw [3, 10] (fun sum i wr => RWide n w sum i wr) (fun _ i _ => n - (intOf i).toNat)
  case atStart => exact ⟨0, _, by omega, rfl, rfl, Below.refl _ _⟩
  case round =>
    obtain ⟨k, m, hk, rfl, rfl, hb⟩ := hrel
    have hB := hb.size
    by_cases hlt : k < n
    · obtain ⟨c0, c1, hr0, hr1, hd⟩ := Hcell.out k hlt
      have g0 : wr.cell? (a.add (k * 2)) = _ := (hb.cell (block_lt_of_cell c0)).trans c0
      have e1 : (⟨(a.add (k * 2)).block, (a.add (k * 2)).off + 1, none⟩ : Addr) = a.add (k * 2 + 1) := by
        unfold Addr.add; rcases Nat.eq_zero_or_pos k with h | h
        · subst h; simp
        · rw [if_neg (by omega), if_neg (by omega)]; simp [Nat.add_assoc]
      have g1 : wr.cell? ⟨(a.add (k * 2)).block, (a.add (k * 2)).off + 1, none⟩ = _ := (congrArg wr.cell? e1).trans ((hb.cell (block_lt_of_cell c1)).trans c1)
      clear c0 c1 e1
      generalize I k = x at *
      obtain ⟨kd, d⟩ := x
      simp only at *
      go_wp2
      go_roundw
      case rel => exact ⟨k + 1, _, by omega, by go_num, rfl, hb.alloc hB _⟩
      case measure => simp [intOf]; omega
    · go_wp2
      go_ret
      exact ⟨⟨_, rfl⟩, hb⟩
def RightPost (k : Nat) (pl : Int) (e : Ending) (w' : World) : Prop := ∃ er, e = .returned er ∧ ErrIs w' er k pl
set_option maxHeartbeats 4000000 in
theorem ahsWrites_law (v : Value) (n : Nat) (I : Nat → Int × List UInt8) (w : World) (h : AhsIn w v n I) (hg : EType w) :
    Calls Tryd.prog 5 #[v] w fun e w' => e = .returned (.bool true) ∧ Below w.heap.size w w' := by
  have hb0 := Below.refl w.heap.size w
  have c0 := fun w => fun h => hid (wide_any v n I w h)
  have c1 := fun w1 (hb : Below w.heap.size w w1) => hid (rahsWrite_any v n I w1 (h.below hb))
  have c2 := fun w1 (hb : Below w.heap.size w w1) => hid (ahsWrite_any v n I w1 (h.below hb))
  have c6 := fun w1 (hb : Below w.heap.size w w1) => hid (ahsRight_any v n I w1 (h.below hb))
  have c0 := c0 w h
  unfold WidePost at c0
  unfold AhsWrRPost faultV at c1
  unfold AhsWrPost at c2
  generalize (if (ahsW I n 0 0).1 = 0 then ahsB I n 0 [] else []) = X at *
  generalize (ahsW I n 0 0).1 = k at *
  generalize (ahsW I n 0 0).2 = pl at *
  have c3 := fun v w1 (hb : Below w.heap.size w w1) hv => hid (placed_ok v k pl w1 (hg.below hb) hv)
  clear hg h
  go_enter Tryd.func5, Tryd.ntmps5
  go_wp2_with fail
  refine c0.out.mono ?_; rintro e w0 ⟨⟨b, rfl⟩, hbw⟩
  cases b with
  | true =>
    go_wp2_with fail
    go_ret
    exact ⟨rfl, hbw⟩
  | false =>
    go_wp2_with fail
    refine (c1 _ hbw).out.mono ?_; rintro e w1 ⟨rfl, hb1⟩
    have hb1' := hbw.trans (hb1.mono hbw.size)
    go_wp2_with fail
    have hbA := hb1'.alloc hb1'.size
    refine (c2 _ (hbA _)).out.mono ?_
    rintro e w2 ⟨⟨er, rfl, her⟩, hb2⟩
    have hbk := heap_alloc_new w1 (.cells #[.int .i64 k, .int .i64 pl] 46 (0, 0))
    have hsz : w1.heap.size < (w1.alloc (.cells #[.int .i64 k, .int .i64 pl] 46 (0, 0))).heap.size := by simp
    have hc0 : w2.cell? ⟨w1.heap.size, 0, none⟩ = some (.int .i64 k) := (hb2.cell (p := ⟨w1.heap.size, 0, none⟩) hsz).trans (by rw [cell_of_row _ _ _ _ _ _ hbk]; rfl)
    have hc1 : w2.cell? ⟨w1.heap.size, 1, none⟩ = some (.int .i64 pl) := (hb2.cell (p := ⟨w1.heap.size, 1, none⟩) hsz).trans (by rw [cell_of_row _ _ _ _ _ _ hbk]; rfl)
    have hbB := (hbA _).trans (hb2.mono (hbA _).size)
    have hlt : w1.heap.size < w2.heap.size := Nat.lt_of_lt_of_le hsz hb2.size
    clear hbk hsz hbA hb2 c0 c1 c2
    go_wp2_with fail
    have d3 : ∀ (v : Value) (w' : World), ErrIs w' v k pl → (w'.cell? ⟨w1.heap.size, 0, none⟩ = some (.int .i64 k) ∧ w'.cell? ⟨w1.heap.size, 1, none⟩ = some (.int .i64 pl) ∧ Below w2.heap.size w2 w') →
        Hid (Calls Tryd.prog 24 #[v, .agg #[.int .i64 (k : Int), .int .i64 pl]] w' fun e w'' => e = .returned (.bool true) ∧ w''.cell? ⟨w1.heap.size, 0, none⟩ = some (.int .i64 k) ∧ w''.cell? ⟨w1.heap.size, 1, none⟩ = some (.int .i64 pl) ∧ Below w2.heap.size w2 w'') := by
      intro v w' hv ⟨h0, h1, h2⟩
      refine hid ((c3 v w' (hbB.trans (h2.mono hbB.size)) hv).out.mono ?_)
      rintro e w'' ⟨rfl, hb⟩
      have hl := Nat.lt_of_lt_of_le hlt h2.size
      exact ⟨rfl, (hb.cell (p := ⟨w1.heap.size, 0, none⟩) hl).trans h0, (hb.cell (p := ⟨w1.heap.size, 1, none⟩) hl).trans h1, h2.trans (hb.mono h2.size)⟩
    have d6 : ∀ (w' : World), (w'.cell? ⟨w1.heap.size, 0, none⟩ = some (.int .i64 k) ∧ w'.cell? ⟨w1.heap.size, 1, none⟩ = some (.int .i64 pl) ∧ Below w2.heap.size w2 w') →
        Hid (Calls Tryd.prog 25 #[v] w' fun e w'' => RightPost k pl e w'' ∧ w''.cell? ⟨w1.heap.size, 0, none⟩ = some (.int .i64 k) ∧ w''.cell? ⟨w1.heap.size, 1, none⟩ = some (.int .i64 pl) ∧ Below w2.heap.size w2 w'') := by
      intro w' ⟨h0, h1, h2⟩
      refine hid ((c6 w' (hbB.trans (h2.mono hbB.size))).out.mono ?_)
      rintro e w'' ⟨⟨er2, rfl, her2⟩, hb⟩
      have hl := Nat.lt_of_lt_of_le hlt h2.size
      exact ⟨⟨er2, rfl, her2⟩, (hb.cell (p := ⟨w1.heap.size, 0, none⟩) hl).trans h0, (hb.cell (p := ⟨w1.heap.size, 1, none⟩) hl).trans h1, h2.trans (hb.mono h2.size)⟩
    have her0 : ∀ w', Below w2.heap.size w2 w' → ErrIs w' er k pl := fun w' h => her.below h
    have hd : Below w2.heap.size w2 w2.drew := (Below.refl _ _).drew
    clear c3 c6 her
    go_region_held3 (fun w' => w'.cell? ⟨w1.heap.size, 0, none⟩ = some (.int .i64 k) ∧ w'.cell? ⟨w1.heap.size, 1, none⟩ = some (.int .i64 pl) ∧ Below w2.heap.size w2 w')
      (first | exact ⟨hc0, hc1, hd⟩ | assumption | exact ⟨by assumption, by assumption, by assumption⟩)
      (first
        | (go_at_call 24; refine (d3 _ _ ?_ ?_).out.mono ?_; (first | assumption | (apply her0; first | exact hd | assumption | (simp only [*]; done))); (first | assumption | exact ⟨hc0, hc1, hd⟩ | exact ⟨by assumption, by assumption, by assumption⟩); rintro e w3 ⟨rfl, g0, g1, g2⟩)
        | (go_at_call 25; refine (d6 _ ?_).out.mono ?_; (first | assumption | exact ⟨by assumption, by assumption, by assumption⟩); rintro e w4 ⟨⟨er2, rfl, her2⟩, j0, j1, j2⟩))
    go_wp2_with fail
    go_ret
    refine ⟨rfl, hbB.trans (Below.mono ?_ hbB.size)⟩
    assumption
theorem ahsWrites_row (v : Value) (n : Nat) (I : Nat → Int × List UInt8) (w : World) (h : AhsIn w v n I) (hL : laidMetH Tryd.prog Rows.ahsWritesRow.laid w) :
    Calls Tryd.prog 5 #[v] w fun e w' => e = .returned (.bool true) ∧ Below w.heap.size w w' :=
  ahsWrites_law v n I w h (cardBase.etype_of_laid (by simp [Rows.ahsWritesRow]) hL)
end Go.Proofs.YtdgfeanjeoendaaDoor
