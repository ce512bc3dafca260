/- Additional headers as bytes: what is wrong with them, by the program. -/
import Derived.Test.YtejbigoacknfoaaGreatDoorPad
import Derived.Test.YtejbigoacknfoaaGreatDoorField
import Derived.Test.YtejbigoacknfoaaGreatDoorTell
import Derived.Maps.AppendAt
import Derived.Deep.QuietTactic
import Derived.BigQuiet
set_option linter.unusedSectionVars false
set_option linter.unusedSimpArgs false
set_option linter.unusedVariables false
namespace Go.Proofs.YtejbigoacknfoaaGreatDoor
open Go.RowKit
set_option linter.unusedVariables false
set_option maxRecDepth 100000
/-- what is wrong with the headers that are left, from the i-th on, behind so many bytes (0: nothing), and where -/
def ahsW (I : Nat → Int × List UInt8) : Nat → Nat → Nat → Nat × Int
  | 0, _, _ => (0, -1)
  | r + 1, i, n => if (I i).1 < 0 ∨ 255 < (I i).1 then (2, i) else if 1020 < (I i).2.length ∨ 1020 < n + 3 + (I i).2.length + padN (3 + (I i).2.length) then (4, i) else ahsW I r (i + 1) (n + (3 + (I i).2.length + padN (3 + (I i).2.length)))
/-- headers as bytes -/
def ahsB (I : Nat → Int × List UInt8) : Nat → Nat → List UInt8 → List UInt8
  | 0, _, out => out
  | r + 1, i, out => ahsB I r (i + 1) (out ++ padded (be (I i).2.length 2 ++ [UInt8.ofNat (I i).1.toNat] ++ (I i).2))
/-- a slice of headers that is handed in -/
def AhsIn (w : World) (v : Value) (n : Nat) (I : Nat → Int × List UInt8) : Prop :=
  n ≤ maxLen ∧ ((v = .slice none 0 0 ∧ n = 0) ∨ ∃ a cap, v = .slice (some a) n cap) ∧
    ∀ a m cap, v = .slice (some a) m cap → ∀ k, k < n → w.cell? (a.add (k * 2)) = some (.int .i64 (I k).1) ∧ w.cell? (a.add (k * 2 + 1)) = some (.string (bs (I k).2)) ∧ -9223372036854775808 ≤ (I k).1 ∧ (I k).1 ≤ 9223372036854775807 ∧ (I k).2.length ≤ maxLen
theorem AhsIn.below {w w' : World} {v : Value} {n : Nat} {I : Nat → Int × List UInt8} (h : AhsIn w v n I) (hb : Below w.heap.size w w') : AhsIn w' v n I := by
  obtain ⟨h1, h2, h3⟩ := h
  refine ⟨h1, h2, fun a m cap e k hk => ?_⟩
  obtain ⟨c0, c1, hr⟩ := h3 a m cap e k hk
  exact ⟨(hb.cell (block_lt_of_cell c0)).trans c0, (hb.cell (block_lt_of_cell c1)).trans c1, hr⟩
def RAhsW (I : Nat → Int × List UInt8) (n : Nat) (w : World) (sum i : Value) (wr : World) : Prop :=
  ∃ k m : Nat, k ≤ n ∧ m ≤ 1020 ∧ i = .int .i64 (k : Nat) ∧ sum = .int .i64 (m : Nat) ∧ ahsW I n 0 0 = ahsW I (n - k) k m ∧ Below w.heap.size w wr
theorem ahsRight_any (v : Value) (n : Nat) (I : Nat → Int × List UInt8) (w : World) (h : AhsIn w v n I) :
    Calls Tryz.prog 80 #[v] w fun e w' => (∃ er, e = .returned er ∧ ErrIs w' er (ahsW I n 0 0).1 (ahsW I n 0 0).2) ∧ Below w.heap.size w w' := by
  obtain ⟨hn, hv, hcell⟩ := h
  unfold maxLen at hn
  rcases hv with ⟨rfl, rfl⟩ | ⟨a, cap, rfl⟩
  · go_enter Tryz.func80, Tryz.ntmps80
    go_wp2
    refine wp_loop_rounds 1 ?_
    rw [rounds_succ]
    go_wp2
    go_ret
    exact ⟨⟨.nilIface, rfl, .nil⟩, Below.refl _ _⟩
  have Hcell := hid (hcell a n cap rfl); clear hcell
  go_enter Tryz.func80, Tryz.ntmps80
  go_wp2
  go_loopw [3, 8] (fun sum i wr => RAhsW I n w sum i wr) (fun _ i _ => n - (intOf i).toNat)
  case atStart => exact ⟨0, 0, by omega, by omega, rfl, rfl, rfl, Below.refl _ _⟩
  case round =>
    obtain ⟨k, m, hk, hm, rfl, rfl, heq, hb⟩ := hrel
    have hB := hb.size
    by_cases hlt : k < n
    · obtain ⟨c0, c1, hr0, hr1, hd⟩ := Hcell.out k hlt
      have g0 : wr.cell? (a.add (k * 2)) = _ := (hb.cell (block_lt_of_cell c0)).trans c0
      have e1 : (⟨(a.add (k * 2)).block, (a.add (k * 2)).off + 1, none⟩ : Addr) = a.add (k * 2 + 1) := by
        unfold Addr.add; rcases Nat.eq_zero_or_pos k with h | h
        · subst h; simp
        · rw [if_neg (by omega), if_neg (by omega)]; simp [Nat.add_assoc]
      have g1 : wr.cell? ⟨(a.add (k * 2)).block, (a.add (k * 2)).off + 1, none⟩ = _ := (congrArg wr.cell? e1).trans ((hb.cell (block_lt_of_cell c1)).trans c1)
      clear e1
      obtain ⟨r, hr⟩ : ∃ r, n - k = r + 1 := ⟨n - k - 1, by omega⟩
      rw [hr, ahsW] at heq
      clear c0 c1
      generalize I k = x at *
      obtain ⟨kd, d⟩ := x
      simp only at *
      unfold maxLen at hd
      have Heq := hid heq; clear heq
      by_cases hkd : kd < 0 ∨ 255 < kd
      · rcases hkd with hkd | hkd
        · go_wp2
          go_ret
          refine ⟨⟨_, rfl, ?_⟩, (hb.alloc hB _).alloc (by simp; omega) _⟩
          rw [Heq.out, if_pos (.inl hkd)]; exact .at_ 2 (by omega) k (wr.heap.size + 1) (by simp) (by simp)
        · have hkd' : ¬ kd < 0 := by omega
          go_wp2
          go_ret
          refine ⟨⟨_, rfl, ?_⟩, (hb.alloc hB _).alloc (by simp; omega) _⟩
          rw [Heq.out, if_pos (.inr hkd)]; exact .at_ 2 (by omega) k (wr.heap.size + 1) (by simp) (by simp)
      · have hkd0 : ¬ kd < 0 := by omega
        have hkd1 : ¬ 255 < kd := by omega
        by_cases hd1 : 1020 < d.length
        · have hdb : decide ((1020 : Int) < (d.length : Int)) = true := decide_eq_true (by omega)
          go_wp2
          go_quiet (fail)
          have hb2 := below_drewN (hb.alloc hB (.cells #[.int .i64 kd, .string (bs d)] 166 (0, 0))) nq
          have hB2 := hb2.size
          generalize World.drewN _ nq = w2 at *
          go_wp2
          go_ret
          refine ⟨⟨_, rfl, ?_⟩, hb2.alloc hB2 _⟩
          rw [Heq.out, if_neg (by omega), if_pos (.inl hd1)]; exact .at_ 4 (by omega) k w2.heap.size (by simp) (by simp)
        · have c1 : ∀ w, Hid (Calls Tryz.prog 94 #[.int .i64 (3 + (d.length : Int))] w fun e w' => e = .returned (.int .i64 (padN (3 + d.length) : Nat)) ∧ w' = w) := by
            intro w
            have := pad_nat (3 + d.length) w (by omega)
            rw [show ((3 + d.length : Nat) : Int) = 3 + (d.length : Int) from by omega] at this
            exact hid (this.mono fun _ _ ⟨h1, h2⟩ => ⟨h1, h2.symm⟩)
          have hp4 := padN_lt (3 + d.length)
          generalize padN (3 + d.length) = p at *
          have hdb : decide ((1020 : Int) < (d.length : Int)) = false := decide_eq_false (by omega)
          have s1 : IntKind.i64.wrap ((m : Int) + 3) = (m : Int) + 3 := by rw [IntKind.wrap_i64]; omega
          have s2 : IntKind.i64.wrap ((m : Int) + 3 + d.length) = (m : Int) + 3 + d.length := by rw [IntKind.wrap_i64]; omega
          have s3 : IntKind.i64.wrap ((m : Int) + 3 + d.length + p) = (m : Int) + 3 + d.length + p := by rw [IntKind.wrap_i64]; omega
          have s4 : IntKind.i64.wrap (3 + (d.length : Int)) = 3 + (d.length : Int) := by rw [IntKind.wrap_i64]; omega
          go_wp2
          go_quiet ((go_at_call 94; exact Calls.quiet_of_same (c1 _).out))
          have hb2 := below_drewN (hb.alloc hB (.cells #[.int .i64 kd, .string (bs d)] 166 (0, 0))) nq
          have hB2 := hb2.size
          by_cases hlim : 1020 < m + 3 + d.length + p
          · have hlb : decide ((1020 : Int) < (m : Int) + 3 + d.length + p) = true := decide_eq_true (by omega)
            generalize World.drewN _ nq = w2 at *
            go_wp2
            go_ret
            refine ⟨⟨_, rfl, ?_⟩, hb2.alloc hB2 _⟩
            rw [Heq.out, if_neg (by omega), if_pos (.inr hlim)]; exact .at_ 4 (by omega) k w2.heap.size (by simp) (by simp)
          · have hlb : decide ((1020 : Int) < (m : Int) + 3 + d.length + p) = false := decide_eq_false (by omega)
            have hbk := heap_alloc_new wr (.cells #[.int .i64 kd, .string (bs d)] 166 (0, 0))
            have hc1 : (World.drewN (wr.alloc (.cells #[.int .i64 kd, .string (bs d)] 166 (0, 0))) nq).cell? ⟨wr.heap.size, 1, none⟩ = some (.string (bs d)) := by rw [World.cell?_drewN, cell_of_row _ _ _ _ _ _ hbk]; rfl
            clear hbk
            generalize World.drewN _ nq = w2 at *
            have s5 : IntKind.i64.wrap (3 + (d.length : Int) + p) = 3 + (d.length : Int) + p := by rw [IntKind.wrap_i64]; omega
            have s6 : IntKind.i64.wrap ((m : Int) + (3 + (d.length : Int) + p)) = (m : Int) + (3 + (d.length : Int) + p) := by rw [IntKind.wrap_i64]; omega
            go_wp2
            go_quiet ((go_at_call 94; exact Calls.quiet_of_same (c1 _).out))
            have hb3 := below_drewN hb2 nq
            go_wp2
            go_roundw
            case rel => exact ⟨k + 1, m + (3 + d.length + p), by omega, by omega, by go_num, by go_num, by rw [Heq.out, if_neg (by omega), if_neg (by omega)]; congr 1; omega, hb3⟩
            case measure => simp [intOf]; omega
    · obtain rfl : k = n := by omega
      go_wp2
      go_ret
      refine ⟨⟨_, rfl, ?_⟩, hb⟩
      rw [heq, Nat.sub_self]; exact .nil
end Go.Proofs.YtejbigoacknfoaaGreatDoor
