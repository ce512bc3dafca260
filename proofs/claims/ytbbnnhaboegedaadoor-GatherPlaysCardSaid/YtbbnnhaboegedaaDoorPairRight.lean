/- What is wrong with pairs, by the program. -/
import Derived.Test.YtbbnnhaboegedaaDoorPairIn
namespace Go.Proofs.YtbbnnhaboegedaaDoor
open Go.RowKit
set_option linter.unusedVariables false
set_option maxRecDepth 100000
theorem own_slice {w : World} {base : Nat} {e : TypeId} {size n : Nat} {v : Value} {xs : List Value} (h : w.ownsRow base e size v n xs) : ∃ A cap, v = .slice A n cap := by
  rcases h.2 with ⟨rfl, rfl⟩ | ⟨g, cap, cur, rfl, _⟩
  · exact ⟨_, _, rfl⟩
  · exact ⟨_, _, rfl⟩
theorem slice_from {P : Program} (t e : TypeId) (ht : P.underlying t = some (.slice e)) (size : Nat) (hsz : ∀ w, (sizeOf e).run P w = .ok size w) (g o n cap k : Nat) (hk : k ≤ n) (hkc : k < cap) (w : World) :
    (Instr.slice t (.slice (some ⟨g, o, none⟩) n cap) (some (.int .i64 (k : Int))) none none).run P w = .ok (.slice (some ⟨g, o + k * size, none⟩) (n - k) (cap - k)) w := by
  have he : P.elem t = e := by simp [Program.elem, ht]
  rw [run_slice_l w t _ n cap (by rw [he]; exact ht) .i64 k (by omega) (by omega), he, hsz]
  simp only [Result.andThen, sliced]
  rw [if_neg (by omega)]
  by_cases h0 : k * size = 0 <;> simp [Addr.add, h0]
theorem slice_one (g n cap : Nat) (h : n + 1 ≤ cap) (w : World) : (Instr.slice 24 (.slice (some ⟨g, 0, none⟩) (n + 1) cap) (some (.int .i64 (n : Int))) none none).run Tryd.prog w = .ok (.slice (some ⟨g, n * 2, none⟩) 1 (cap - n)) w := by
  have hsl := slice_from (P := Tryd.prog) 24 47 Tryd.underlying24 2 (by intro w; kernel_rfl) g 0 (n + 1) cap n (by omega) (by omega) w
  rwa [Nat.add_sub_cancel_left, Nat.zero_add] at hsl
theorem own_form {w : World} {base : Nat} {e : TypeId} {size n : Nat} {v : Value} {xs : List Value} (h : w.ownsRow base e size v n xs) (hs : 0 < size) (hn : 0 < n) :
    ∃ g cap, v = .slice (some ⟨g, 0, none⟩) n cap ∧ n ≤ cap ∧ cap ≤ 9223372036854775807 ∧ base ≤ g ∧ (∀ j u, xs[j]? = some u → w.cell? ⟨g, j, none⟩ = some u) := by
  rcases h.2 with ⟨rfl, rfl⟩ | ⟨g, cap, cur, rfl, hbg, hg, hnc, hcm, hcs, htake⟩
  · have := h.1; simp at this; rcases this with h' | h' <;> omega
  · refine ⟨g, cap, rfl, hnc, by unfold maxLen at hcm; omega, hbg, fun j u hu => ?_⟩
    rw [cell_of_row w g j cur e (0, 0) hg]
    rw [← htake, List.getElem?_take] at hu
    split at hu
    · simpa using hu
    · cases hu
theorem errIs_at {w : World} {v : Value} {k : Nat} {pl : Int} (h : ErrIs w v k pl) (hk : 0 < k) (hp : 0 ≤ pl) : ∃ b, v = .iface 96 (.pointer (some ⟨b, 0, none⟩)) := by
  generalize hq : pl = q at h
  cases h with
  | nil => omega
  | bare k h => omega
  | at_ k h pl b h0 h1 => exact ⟨b, rfl⟩
theorem errIs_zero' {w : World} {v : Value} {pl : Int} (h : ErrIs w v 0 pl) : v = .nilIface := by
  generalize hk : 0 = k at h
  cases h <;> first | rfl | omega
theorem errAt_new (w : World) (k : Nat) (pl : Int) (hk : 0 < k) : ErrIs (w.alloc (.cells #[.int .i64 k, .int .i64 pl] 98)) (.iface 96 (.pointer (some ⟨w.heap.size, 0, none⟩))) k pl :=
  .at_ k hk pl w.heap.size (by simp) (by simp)
def PRightPost (l : PL) (w : World) (e : Ending) (w' : World) : Prop := (∃ er, e = .returned er ∧ ErrIs w' er (pairsR l).1 (pairsR l).2) ∧ Below w.heap.size w w'
def RPRight (l : PL) (w : World) (i : Value) (wr : World) : Prop :=
  ∃ k : Nat, k ≤ l.length ∧ i = .int .i64 (k : Nat) ∧ pairsR l = pairsRG (l.drop k) k ∧ Below w.heap.size w wr
set_option maxHeartbeats 4000000 in
theorem pairsRight_any (v : Value) (l : PL) (w : World) (h : PSl w v l) (hbd : PBd l) :
    Calls Tryd.prog 16 #[v] w fun e w' => PRightPost l w e w' := by
  obtain ⟨hn, hlen⟩ := hbd
  by_cases h60 : 60 < l.length
  · have hR : pairsR l = (4, -1) := by rw [pairsR, if_pos h60]
    have HR := hid hR; clear hR
    rcases h.open_ with ⟨rfl, _⟩ | ⟨h0, b, o, c, rfl, _, _⟩
    · simp at h60
    clear h
    have h60' : decide ((60 : Int) < (l.length : Int)) = true := decide_eq_true (by omega)
    go_enter Tryd.func16, Tryd.ntmps16
    go_wp2
    go_ret
    refine ⟨⟨_, rfl, ?_⟩, Below.refl _ _⟩
    rw [HR.out]; exact .bare 4 (by omega)
  have hR : pairsR l = pairsRG l 0 := by rw [pairsR, if_neg h60]
  rcases h.open_ with ⟨rfl, a, c, rfl⟩ | ⟨h0, b, o, c, rfl, hbl, hcell⟩
  · clear h hR hlen
    go_enter Tryd.func16, Tryd.ntmps16
    go_wp2
    refine wp_loop_rounds 1 ?_
    rw [rounds_succ]
    go_wp2
    go_ret
    exact ⟨⟨.nilIface, rfl, .nil⟩, Below.refl _ _⟩
  clear h
  have Hcell := hid hcell; clear hcell
  have HR := hid hR; clear hR
  have Hlen := hid hlen; clear hlen
  have h60' : decide ((60 : Int) < (l.length : Int)) = false := decide_eq_false (by omega)
  go_enter Tryd.func16, Tryd.ntmps16
  go_wp2
  go_loopw [11] (fun i wr => RPRight l w i wr) (fun i _ => l.length - (intOf i).toNat)
  case atStart => exact ⟨0, by omega, rfl, by rw [HR.out]; rfl, Below.refl _ _⟩
  case round =>
    obtain ⟨k, hk, rfl, heq, hb⟩ := hrel
    have hB := hb.size
    by_cases hlt : k < l.length
    · obtain ⟨c0, c1⟩ := Hcell.out k hlt
      have g0 := (hb.cell (p := ⟨b, o + k * 2, none⟩) hbl).trans c0
      have g1 := (hb.cell (p := ⟨b, o + k * 2 + 1, none⟩) hbl).trans c1
      obtain ⟨hd0, hd1⟩ := Hlen.out k
      rw [pairsRG_drop l k hlt] at heq
      clear c0 c1
      generalize l.getD k ([], []) = x at *
      obtain ⟨x1, x2⟩ := x
      simp only at *
      have c1 := fun w => hid (key_any x1 w hd0)
      have c2 := fun w => hid (value_any x2 w hd1)
      cases hk1 : isKey x1 with
      | false =>
        rw [hk1] at c1
        rw [hk1, if_pos rfl] at heq
        have Heq := hid heq; clear heq hk1
        go_wp2_with (go_at_call 18; refine (c1 _).out.mono ?_; rintro e w1 ⟨rfl, rfl⟩)
        go_ret
        refine ⟨⟨_, rfl, ?_⟩, (hb.alloc hB _).alloc (by simp; omega) _⟩
        rw [Heq.out]; exact .at_ 5 (by omega) k (wr.heap.size + 1) (by simp) (by simp)
      | true =>
        rw [hk1] at c1
        rw [hk1, if_neg (by simp)] at heq
        cases hv2 : isValue x2 with
        | false =>
          rw [hv2] at c2
          rw [hv2, if_pos rfl] at heq
          have Heq := hid heq; clear heq hk1 hv2
          go_wp2_with first
            | (go_at_call 18; refine (c1 _).out.mono ?_; rintro e w1 ⟨rfl, rfl⟩)
            | (go_at_call 20; refine (c2 _).out.mono ?_; rintro e w1 ⟨rfl, rfl⟩)
          go_ret
          refine ⟨⟨_, rfl, ?_⟩, (hb.alloc hB _).alloc (by simp; omega) _⟩
          rw [Heq.out]; exact .at_ 3 (by omega) k (wr.heap.size + 1) (by simp) (by simp)
        | true =>
          rw [hv2] at c2
          rw [hv2, if_neg (by simp)] at heq
          have Heq := hid heq; clear heq hk1 hv2
          go_wp2_with first
            | (go_at_call 18; refine (c1 _).out.mono ?_; rintro e w1 ⟨rfl, rfl⟩)
            | (go_at_call 20; refine (c2 _).out.mono ?_; rintro e w1 ⟨rfl, rfl⟩)
          go_roundw
          case rel => exact ⟨k + 1, by omega, by go_num, Heq.out, hb.alloc hB _⟩
          case measure => simp [intOf]; omega
    · obtain rfl : k = l.length := by omega
      go_wp2
      go_ret
      refine ⟨⟨_, rfl, ?_⟩, hb⟩
      rw [heq, List.drop_length]; exact .nil
end Go.Proofs.YtbbnnhaboegedaaDoor
