/- What may be a pair's value: the program's and the document's word. -/
import Derived.Test.YtejbigoacknfoaaGreatDoorWithin
import Derived.Test.YtejbigoacknfoaaGreatDoorBase
import Derived.Deep.QuietTactic
import Derived.BigQuiet
set_option linter.unusedSectionVars false
set_option linter.unusedSimpArgs false
set_option linter.unusedVariables false
namespace Go.Proofs.YtejbigoacknfoaaGreatDoor
open Go.RowKit
set_option linter.unusedVariables false
set_option maxRecDepth 100000
/-- a byte that a value may have -/
def vOk (b : UInt8) : Bool := decide (32 ≤ b.toNat) && decide (b.toNat ≤ 126)
def isValue (l : List UInt8) : Bool := l.all vOk && decide (l.length ≤ 255)
theorem all_drop_false (l : List UInt8) (k : Nat) (h : k < l.length) (p : UInt8 → Bool) (hf : p l[k] = false) : l.all p = false := by
  rw [List.all_eq_false]; exact ⟨l[k], List.getElem_mem h, by simp [hf]⟩
theorem value_any (l : List UInt8) (w : World) (hl : l.length ≤ 9223372036854775807) :
    Calls Tryz.prog 134 #[.string (bs l)] w fun e w' => e = .returned (.bool (isValue l)) ∧ w' = w := by
  go_enter Tryz.func134, Tryz.ntmps134
  go_wp2
  go_loopw [6] (fun i wr => ∃ k : Nat, k ≤ l.length ∧ i = .int .i64 k ∧ (∀ j (h : j < l.length), j < k → vOk l[j] = true) ∧ wr = w) (fun i _ => l.length - (intOf i).toNat)
  case atStart => exact ⟨0, by omega, rfl, by intro j _ h; omega, rfl⟩
  case round =>
    obtain ⟨k, hk, rfl, hall, rfl⟩ := hrel
    have Hall := hid hall; clear hall
    by_cases hlt : k < l.length
    · have hx : l[k].toNat < 256 := l[k].toNat_lt
      have hi : (k : Int) < (l.length : Int) := by omega
      by_cases h1 : l[k].toNat < 32
      · have hf := all_drop_false l k hlt vOk (by simp [vOk]; omega)
        have Hf := hid hf; clear hf
        go_wp2
        go_ret
        exact ⟨by rw [isValue, Hf.out]; rfl, rfl⟩
      · by_cases h2 : 126 < l[k].toNat
        · have hf := all_drop_false l k hlt vOk (by simp [vOk]; omega)
          have Hf := hid hf; clear hf
          go_wp2
          go_ret
          exact ⟨by rw [isValue, Hf.out]; rfl, rfl⟩
        · go_wp2
          go_roundw
          case rel => exact ⟨k + 1, by omega, by go_num, by intro j h hj; rcases Nat.lt_succ_iff_lt_or_eq.1 hj with h' | rfl; exact Hall.out j h h'; simp [vOk]; omega, trivial⟩
          case measure => simp [intOf]; omega
    · have ha : l.all vOk = true := by
        rw [List.all_eq_true]; intro x hx
        obtain ⟨j, hj, rfl⟩ := List.getElem_of_mem hx
        exact Hall.out j hj (by omega)
      have Ha := hid ha; clear ha
      obtain rfl : k = l.length := by omega
      go_wp2
      go_ret
      refine ⟨?_, rfl⟩
      rw [isValue, Ha.out]
      simp
      omega
theorem rvalue_any (l : List UInt8) (w : World) (hl : l.length ≤ 9223372036854775807) :
    Calls Tryz.prog 139 #[.string (bs l)] w fun e w' => e = .returned (.bool (isValue l)) ∧ Below w.heap.size w w' := by
  have cv := fun w => conv_sb (P := Tryz.prog) 9 120 5 Tryz.underlying9 Tryz.underlying120 Tryz.underlying5 (bs l) w
  obtain ⟨cp, w1, hrun, hcp, hcell, hb1, hsz1, _⟩ := cv w
  rw [bs_size] at hrun
  clear cv
  have hcell' : ∀ j (h : j < l.length), w1.cell? ⟨w.heap.size, j, none⟩ = some (.int .u8 (l[j].toNat : Nat)) := fun j h => (hcell j (by rw [bs_size]; exact h)).trans rfl
  have Hcell := hid hcell'; clear hcell hcell'
  go_enter Tryz.func139, Tryz.ntmps139
  go_wp2
  go_loopw [8] (fun i wr => ∃ k : Nat, k ≤ l.length ∧ i = .int .i64 k ∧ (∀ j (h : j < l.length), j < k → vOk l[j] = true) ∧ wr = w1) (fun i _ => l.length - (intOf i).toNat)
  case atStart => exact ⟨0, by omega, rfl, by intro j _ h; omega, rfl⟩
  case round =>
    obtain ⟨k, hk, rfl, hall, rfl⟩ := hrel
    have Hall := hid hall; clear hall
    by_cases hlt : k < l.length
    · have hx : l[k].toNat < 256 := l[k].toNat_lt
      have hc := Hcell.out k hlt
      by_cases h1 : l[k].toNat < 32 ∨ 126 < l[k].toNat
      · have hf := all_drop_false l k hlt vOk (by simp [vOk]; omega)
        have Hf := hid hf; clear hf
        have c1 := fun w => hid (within_false (l[k].toNat : Nat) 32 126 w (by omega))
        go_wp2_with (go_at_call 65; refine (c1 _).out.mono ?_; rintro e w2 ⟨rfl, rfl⟩)
        go_ret
        exact ⟨by rw [isValue, Hf.out]; rfl, hb1⟩
      · have c1 := fun w => hid (within_true (l[k].toNat : Nat) 32 126 w (by omega) (by omega))
        go_wp2_with (go_at_call 65; refine (c1 _).out.mono ?_; rintro e w2 ⟨rfl, rfl⟩)
        go_roundw
        case rel => exact ⟨k + 1, by omega, by go_num, by intro j h hj; rcases Nat.lt_succ_iff_lt_or_eq.1 hj with h' | rfl; exact Hall.out j h h'; simp [vOk]; omega, trivial⟩
        case measure => simp [intOf]; omega
    · have ha : l.all vOk = true := by
        rw [List.all_eq_true]; intro x hx
        obtain ⟨j, hj, rfl⟩ := List.getElem_of_mem hx
        exact Hall.out j hj (by omega)
      have Ha := hid ha; clear ha
      obtain rfl : k = l.length := by omega
      go_wp2
      go_ret
      refine ⟨?_, hb1⟩
      rw [isValue, Ha.out]
      simp
      omega
end Go.Proofs.YtejbigoacknfoaaGreatDoor
