/- What is wrong with pairs, by the program. -/
import Derived.Test.YtbbnnhaboegedaaDoorPairIn
namespace Go.Proofs.YtbbnnhaboegedaaDoor
open Go.RowKit
set_option linter.unusedVariables false
set_option maxRecDepth 100000
def PRightPost (l : PL) (w : World) (e : Ending) (w' : World) : Prop := (∃ er, e = .returned er ∧ ErrIs w' er (pairsR l).1 (pairsR l).2) ∧ Below w.heap.size w w'
def RPRight (l : PL) (w : World) (i : Value) (wr : World) : Prop :=
  ∃ k : Nat, k ≤ l.length ∧ i = .int .i64 (k : Nat) ∧ pairsR l = pairsRG (l.drop k) k ∧ Below w.heap.size w wr
set_option maxHeartbeats 4000000 in
theorem pairsRight_any (v : Value) (l : PL) (w : World) (h : PSl w v l) (hbd : PBd l) :
    Calls Tryd.prog 16 #[v] w fun e w' => PRightPost l w e w' := by
  obtain ⟨hn, hlen⟩ := hbd
  by_cases h60 : 60 < l.length
  · have hR : pairsR l = (4, -1) := by rw [pairsR, if_pos h60]
    have HR := hid hR; clear hR
    rcases h.open_ with ⟨rfl, _⟩ | ⟨h0, b, o, c, rfl, _, _⟩
    · simp at h60
    clear h
    have h60' : decide ((60 : Int) < (l.length : Int)) = true := decide_eq_true (by omega)
    go_enter Tryd.func16, Tryd.ntmps16
    go_wp2
    go_ret
    refine ⟨⟨_, rfl, ?_⟩, Below.refl _ _⟩
    rw [HR.out]; exact .bare 4 (by omega)
  have hR : pairsR l = pairsRG l 0 := by rw [pairsR, if_neg h60]
  rcases h.open_ with ⟨rfl, a, c, rfl⟩ | ⟨h0, b, o, c, rfl, hbl, hcell⟩
  · clear h hR hlen
    go_enter Tryd.func16, Tryd.ntmps16
    go_wp2
    refine wp_loop_rounds 1 ?_
    rw [rounds_succ]
    go_wp2
    go_ret
    exact ⟨⟨.nilIface, rfl, .nil⟩, Below.refl _ _⟩
  clear h
  have Hcell := hid hcell; clear hcell
  have HR := hid hR; clear hR
  have Hlen := hid hlen; clear hlen
  have h60' : decide ((60 : Int) < (l.length : Int)) = false := decide_eq_false (by omega)
  go_enter Tryd.func16, Tryd.ntmps16
  go_wp2
  go_loopw [11] (fun i wr => RPRight l w i wr) (fun i _ => l.length - (intOf i).toNat)
  case atStart => exact ⟨0, by omega, rfl, by rw [HR.out]; rfl, Below.refl _ _⟩
  case round =>
    obtain ⟨k, hk, rfl, heq, hb⟩ := hrel
    have hB := hb.size
    by_cases hlt : k < l.length
    · obtain ⟨c0, c1⟩ := Hcell.out k hlt
      have g0 := (hb.cell (p := ⟨b, o + k * 2, none⟩) hbl).trans c0
      have g1 := (hb.cell (p := ⟨b, o + k * 2 + 1, none⟩) hbl).trans c1
      obtain ⟨hd0, hd1⟩ := Hlen.out k
      rw [pairsRG_drop l k hlt] at heq
      clear c0 c1
      generalize l.getD k ([], []) = x at *
      obtain ⟨x1, x2⟩ := x
      simp only at *
      have c1 := fun w => hid (key_any x1 w hd0)
      have c2 := fun w => hid (value_any x2 w hd1)
      cases hk1 : isKey x1 with
      | false =>
        rw [hk1] at c1
        rw [hk1, if_pos rfl] at heq
        have Heq := hid heq; clear heq hk1
        go_wp2_with (go_at_call 18; refine (c1 _).out.mono ?_; rintro e w1 ⟨rfl, rfl⟩)
        go_ret
        refine ⟨⟨_, rfl, ?_⟩, (hb.alloc hB _).alloc (by simp; omega) _⟩
        rw [Heq.out]; exact .at_ 5 (by omega) k (wr.heap.size + 1) (by simp) (by simp)
      | true =>
        rw [hk1] at c1
        rw [hk1, if_neg (by simp)] at heq
        cases hv2 : isValue x2 with
        | false =>
          rw [hv2] at c2
          rw [hv2, if_pos rfl] at heq
          have Heq := hid heq; clear heq hk1 hv2
          go_wp2_with first
            | (go_at_call 18; refine (c1 _).out.mono ?_; rintro e w1 ⟨rfl, rfl⟩)
            | (go_at_call 20; refine (c2 _).out.mono ?_; rintro e w1 ⟨rfl, rfl⟩)
          go_ret
          refine ⟨⟨_, rfl, ?_⟩, (hb.alloc hB _).alloc (by simp; omega) _⟩
          rw [Heq.out]; exact .at_ 3 (by omega) k (wr.heap.size + 1) (by simp) (by simp)
        | true =>
          rw [hv2] at c2
          rw [hv2, if_neg (by simp)] at heq
          have Heq := hid heq; clear heq hk1 hv2
          go_wp2_with first
            | (go_at_call 18; refine (c1 _).out.mono ?_; rintro e w1 ⟨rfl, rfl⟩)
            | (go_at_call 20; refine (c2 _).out.mono ?_; rintro e w1 ⟨rfl, rfl⟩)
          go_roundw
          case rel => exact ⟨k + 1, by omega, by go_num, Heq.out, hb.alloc hB _⟩
          case measure => simp [intOf]; omega
    · obtain rfl : k = l.length := by omega
      go_wp2
      go_ret
      refine ⟨⟨_, rfl, ?_⟩, hb⟩
      rw [heq, List.drop_length]; exact .nil
end Go.Proofs.YtbbnnhaboegedaaDoor
