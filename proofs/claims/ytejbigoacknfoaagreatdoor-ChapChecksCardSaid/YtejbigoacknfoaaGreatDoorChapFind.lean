/- A user of a name: by the program, and by slices.IndexFunc. -/
import Derived.Test.YtejbigoacknfoaaGreatDoorPairIn
set_option linter.unusedSectionVars false
set_option linter.unusedSimpArgs false
set_option linter.unusedVariables false
namespace Go.Proofs.YtejbigoacknfoaaGreatDoor
open Go Go.RowKit
set_option linter.unusedVariables false
set_option linter.unusedSectionVars false
set_option linter.unusedSimpArgs false
set_option maxRecDepth 100000
/-- where the first user of a name stands -/
def posU (l : PL) (n : List UInt8) : Nat := l.findIdx fun u => u.1 == n
def NotAhead (l : PL) (n : List UInt8) (k : Nat) : Prop := ∀ j, j < k → (l.getD j ([], [])).1 ≠ n
theorem posU_at (l : PL) (n : List UInt8) (k : Nat) (hk : k < l.length) (h : (l.getD k ([], [])).1 = n) (ha : NotAhead l n k) : posU l n = k := by
  unfold posU
  rw [List.findIdx_eq hk]
  refine ⟨?_, fun j hj => ?_⟩
  · rw [← h]; simp [List.getD, List.getElem?_eq_getElem hk]
  · have := ha j hj
    simp only [List.getD, List.getElem?_eq_getElem (show j < l.length by omega), Option.getD_some] at this
    exact beq_eq_false_iff_ne.2 this
theorem posU_none (l : PL) (n : List UInt8) (ha : NotAhead l n l.length) : posU l n = l.length := by
  unfold posU
  rw [List.findIdx_eq_length]
  intro x hx
  obtain ⟨j, hj, rfl⟩ := List.getElem_of_mem hx
  have := ha j hj
  simp only [List.getD, List.getElem?_eq_getElem hj, Option.getD_some] at this
  exact beq_eq_false_iff_ne.2 this
theorem NotAhead.step {l : PL} {n : List UInt8} {k : Nat} (h : NotAhead l n k) (hk : (l.getD k ([], [])).1 ≠ n) : NotAhead l n (k + 1) := fun j hj => by
  rcases Nat.lt_or_ge j k with h' | h'
  · exact h j h'
  · obtain rfl : j = k := by omega
    exact hk
theorem notAhead_zero (l : PL) (n : List UInt8) : NotAhead l n 0 := fun j hj => absurd hj (by omega)
def userV (u : List UInt8 × List UInt8) : Value := .agg #[.string (bs u.1), .string (bs u.2)]
def RUsr (l : PL) (n : List UInt8) (W : World) (i : Value) (wr : World) : Prop :=
  ∃ k : Nat, k ≤ l.length ∧ i = .int .i64 (k : Nat) ∧ Hid (NotAhead l n k) ∧ Below W.heap.size W wr
/-- the program's answer -/
def foundU (l : PL) (n : List UInt8) : Value := if posU l n < l.length then .tuple #[userV (l.getD (posU l n) ([], [])), .bool true] else .tuple #[userV ([], []), .bool false]
set_option maxHeartbeats 4000000 in
theorem findU_any (v : Value) (l : PL) (n : List UInt8) (w : World) (h : PSl w v l) (hn : l.length ≤ 9223372036854775807) :
    Calls Tryz.prog 21 #[v, .string (bs n)] w fun e w' => e = .returned (foundU l n) ∧ Below w.heap.size w w' := by
  have hA := (Below.refl w.heap.size w).alloc (Nat.le_refl _) (.cells #[.string ⟨#[]⟩, .string ⟨#[]⟩] 38)
  have hF0 : (w.alloc (.cells #[.string ⟨#[]⟩, .string ⟨#[]⟩] 38)).heap[w.heap.size]? = some (.cells #[.string ⟨#[]⟩, .string ⟨#[]⟩] 38 (0, 0)) := heap_alloc_new _ _
  rcases h.open_ with ⟨rfl, a, c, rfl⟩ | ⟨h0, b, o, c, rfl, hbl, hcell⟩
  · clear h
    go_enter Tryz.func21, Tryz.ntmps21
    go_wp2
    refine wp_loop_rounds 1 ?_
    rw [rounds_succ]
    go_wp2
    refine bodyPost_ret (v := .tuple #[.agg #[.string ⟨#[]⟩, .string ⟨#[]⟩], .bool false]) (by simp [results, Tryz.results21, go_sem]) rfl ⟨rfl, hA⟩
  clear h
  have Hcell := hid hcell; clear hcell
  have HF := hid hF0; have HA := hid hA; clear hF0 hA
  go_enter Tryz.func21, Tryz.ntmps21
  go_wp2
  go_loopw [10] (fun i wr => RUsr l n (w.alloc (.cells #[.string ⟨#[]⟩, .string ⟨#[]⟩] 38)) i wr) (fun i _ => l.length - (intOf i).toNat)
  case atStart => exact ⟨0, by omega, rfl, hid (notAhead_zero l n), Below.refl _ _⟩
  case round =>
    obtain ⟨k, hk, rfl, HN, hb⟩ := hrel
    have hB := hb.size
    have hf := (hb.block w.heap.size (by simp)).trans HF.out
    have q0 : wr.cell? ⟨w.heap.size, 0, none⟩ = some (.string ⟨#[]⟩) := by rw [cell_of_row _ _ _ _ _ _ hf]; rfl
    have q1 : wr.cell? ⟨w.heap.size, 1, none⟩ = some (.string ⟨#[]⟩) := by rw [cell_of_row _ _ _ _ _ _ hf]; rfl
    have q2 : wr.frozen? ⟨w.heap.size, 0, none⟩ = false := frozen_of_row _ _ _ _ _ hf
    have q3 : wr.frozen? ⟨w.heap.size, 1, none⟩ = false := frozen_of_row _ _ _ _ _ hf
    have hp : w.heap.size < wr.heap.size := by simp at hB; omega
    clear hf
    by_cases hlt : k < l.length
    · obtain ⟨c0, c1⟩ := Hcell.out k hlt
      have hb' := HA.out.trans (hb.mono HA.out.size)
      have g0 := (hb'.cell (p := ⟨b, o + k * 2, none⟩) hbl).trans c0
      have g1 := (hb'.cell (p := ⟨b, o + k * 2 + 1, none⟩) hbl).trans c1
      by_cases hkey : (l.getD k ([], [])).1 = n
      · have HP := hid (posU_at l n k hlt hkey HN.out)
        have HV := hid (show foundU l n = .tuple #[userV (l.getD k ([], [])), .bool true] by unfold foundU; rw [HP.out, if_pos hlt])
        clear c0 c1 HP
        generalize l.getD k ([], []) = x at *
        obtain ⟨x1, x2⟩ := x
        simp only at *
        subst hkey
        have q4 := cell_setCell_self wr ⟨w.heap.size, 0, none⟩ _ (.string (bs x1)) q0
        have q5 : (wr.setCell ⟨w.heap.size, 0, none⟩ (.string (bs x1))).cell? ⟨w.heap.size, 1, none⟩ = some (.string ⟨#[]⟩) := (World.cell?_setCell_other _ _ _ _ (by intro e; cases e)).trans q1
        have q6 := cell_setCell_self _ ⟨w.heap.size, 1, none⟩ _ (.string (bs x2)) q5
        have q7 := (World.cell?_setCell_other (wr.setCell ⟨w.heap.size, 0, none⟩ (.string (bs x1))) ⟨w.heap.size, 1, none⟩ ⟨w.heap.size, 0, none⟩ (.string (bs x2)) (by intro e; cases e)).trans q4
        have r0 := fun o => (((Below.refl _ _).alloc (Nat.le_refl _) o).cell (p := ⟨w.heap.size, 0, none⟩) (block_lt_of_cell q7)).trans q7
        have r1 := fun o => (((Below.refl _ _).alloc (Nat.le_refl _) o).cell (p := ⟨w.heap.size, 1, none⟩) (block_lt_of_cell q6)).trans q6
        go_wp2
        refine bodyPost_ret (v := .tuple #[.agg #[.string (bs x1), .string (bs x2)], .bool true]) (by simp [results, Tryz.results21, go_sem, r0, r1]) rfl ⟨by rw [HV.out]; rfl, ((hb'.setCell (Nat.le_refl _) _).setCell (Nat.le_refl _) _).alloc (by simp; omega) _⟩
      · have hbe : ((l.getD k ([], [])).1 == n) = false := by simpa using hkey
        have HS := hid (HN.out.step hkey)
        clear c0 c1 hkey
        generalize l.getD k ([], []) = x at *
        obtain ⟨x1, x2⟩ := x
        simp only at *
        go_wp2
        refine ⟨⟨k + 1, by omega, by go_num, hid HS.out, hb.alloc (by simpa using hB) _⟩, by simp [intOf]; omega⟩
    · obtain rfl : k = l.length := by omega
      have HV := hid (show foundU l n = .tuple #[userV ([], []), .bool false] by unfold foundU; rw [posU_none l n HN.out, if_neg (by omega)])
      go_wp2
      refine bodyPost_ret (v := .tuple #[.agg #[.string ⟨#[]⟩, .string ⟨#[]⟩], .bool false]) (by simp [results, Tryz.results21, go_sem, q0, q1, q2, q3]) rfl ⟨by rw [HV.out]; rfl, ((HA.out.trans (hb.mono HA.out.size)).setCell (Nat.le_refl _) _).setCell (Nat.le_refl _) _⟩
/-- slices.IndexFunc of the law's closure -/
def idxU (l : PL) (n : List UInt8) : Int := if posU l n < l.length then (posU l n : Nat) else -1
theorem clo_any (u : List UInt8 × List UInt8) (n : List UInt8) (p : Addr) (w : World) (hp : w.cell? p = some (.string (bs n))) (hps : p.spot = none) :
    Calls Tryz.prog 20 #[userV u, .pointer (some p)] w fun e w' => e = .returned (.bool (u.1 == n)) ∧ Below w.heap.size w w' := by
  have hp2 : (w.alloc (.cells #[.string (bs u.1), .string (bs u.2)] 38)).cell? p = some (.string (bs n)) := by
    obtain ⟨b, o, sp⟩ := p
    simp only at hps
    subst hps
    exact (((Below.refl w.heap.size w).alloc (Nat.le_refl _) _).cell (p := ⟨b, o, none⟩) (block_lt_of_cell hp)).trans hp
  unfold userV
  go_enter Tryz.func20, Tryz.ntmps20
  go_wp2
  go_ret
  exact ⟨rfl, (Below.refl _ _).alloc (Nat.le_refl _) _⟩
set_option maxHeartbeats 4000000 in
theorem idxU_any (v : Value) (l : PL) (n : List UInt8) (p : Addr) (w : World) (h : PSl w v l) (hn : l.length ≤ 9223372036854775807) (hp : w.cell? p = some (.string (bs n))) (hps : p.spot = none) :
    Calls Tryz.prog 19 #[v, .func (.func 20) #[] #[.pointer (some p)]] w fun e w' => e = .returned (.int .i64 (idxU l n)) ∧ Below w.heap.size w w' := by
  rcases h.open_ with ⟨rfl, a, c, rfl⟩ | ⟨h0, b, o, c, rfl, hbl, hcell⟩
  · clear h
    go_enter Tryz.func19, Tryz.ntmps19
    go_wp2
    refine wp_loop_rounds 1 ?_
    rw [rounds_succ]
    go_wp2
    go_ret
    exact ⟨rfl, Below.refl _ _⟩
  clear h
  have Hcell := hid hcell; clear hcell
  have HP := hid hp; clear hp
  go_enter Tryz.func19, Tryz.ntmps19
  go_wp2
  go_loopw [8] (fun i wr => RUsr l n w i wr) (fun i _ => l.length - (intOf i).toNat)
  case atStart => exact ⟨0, by omega, rfl, hid (notAhead_zero l n), Below.refl _ _⟩
  case round =>
    obtain ⟨k, hk, rfl, HN, hb⟩ := hrel
    have hB := hb.size
    by_cases hlt : k < l.length
    · obtain ⟨c0, c1⟩ := Hcell.out k hlt
      have g0 := (hb.cell (p := ⟨b, o + k * 2, none⟩) hbl).trans c0
      have g1 := (hb.cell (p := ⟨b, o + k * 2 + 1, none⟩) hbl).trans c1
      have hpw : wr.cell? p = some (.string (bs n)) := by
        obtain ⟨pb, po, ps⟩ := p
        simp only at hps
        subst hps
        exact (hb.cell (p := ⟨pb, po, none⟩) (block_lt_of_cell HP.out)).trans HP.out
      have cc := hid (clo_any (l.getD k ([], [])) n p wr hpw hps)
      unfold userV at cc
      clear hpw c0 c1
      by_cases hkey : (l.getD k ([], [])).1 = n
      · have HP2 := hid (show idxU l n = (k : Nat) by unfold idxU; rw [posU_at l n k hlt hkey HN.out, if_pos hlt])
        have hbe : ((l.getD k ([], [])).1 == n) = true := beq_iff_eq.2 hkey
        rw [hbe] at cc
        clear hbe hkey
        generalize l.getD k ([], []) = x at *
        go_wp2_with fail
        refine cc.out.mono ?_
        rintro e w1 ⟨rfl, hb1⟩
        go_wp2
        go_ret
        exact ⟨by rw [HP2.out]; rfl, hb.trans (hb1.mono hB)⟩
      · have hbe : ((l.getD k ([], [])).1 == n) = false := by simpa using hkey
        have HS := hid (HN.out.step hkey)
        rw [hbe] at cc
        clear hbe hkey
        generalize l.getD k ([], []) = x at *
        go_wp2_with fail
        refine cc.out.mono ?_
        rintro e w1 ⟨rfl, hb1⟩
        go_wp2
        refine ⟨⟨k + 1, by omega, by go_num, hid HS.out, hb.trans (hb1.mono hB)⟩, by simp [intOf]; omega⟩
    · obtain rfl : k = l.length := by omega
      have HP2 := hid (show idxU l n = -1 by unfold idxU; rw [posU_none l n HN.out, if_neg (by omega)])
      go_wp2
      go_ret
      exact ⟨by rw [HP2.out]; rfl, hb⟩
end Go.Proofs.YtejbigoacknfoaaGreatDoor
