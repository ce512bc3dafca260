/- The document's Unpad. -/
import Derived.Test.YtdgfeanjeoendaaDoorPad
import Derived.Test.YtdgfeanjeoendaaDoorTrim
namespace Go.Proofs.YtdgfeanjeoendaaDoor
open Go.RowKit
set_option linter.unusedVariables false
set_option maxRecDepth 100000
def runpadV (l : List UInt8) (n : Int) : Value := .tuple (if unpadE l n = 0 then #[.string (bs (l.take n.toNat)), .int .i64 (n + padI n), .int .i64 0] else #[.string (bs []), .int .i64 0, .int .i64 (unpadE l n : Nat)])
theorem rpad_nat (n : Nat) (w : World) (h1 : n ≤ 9223372036854775807) :
    Calls Tryd.prog 32 #[.int .i64 n] w fun e w' => e = .returned (.int .i64 (padN n : Nat)) ∧ w = w' := by
  have := rpad_any n w (by omega) (by omega)
  rwa [padI_nat] at this
theorem drewN_drewN (w : World) (a b : Nat) : (w.drewN a).drewN b = w.drewN (a + b) := by
  simp [World.drewN, Nat.add_assoc]
theorem trim0_iff (l : List UInt8) (k p : Nat) (hp : k + p ≤ l.length) : trimL (trimR ((l.drop k).take p) 0) 0 = [] ↔ (l.drop k).take p = List.replicate p 0 := by
  rw [trim_nil]
  have : ((l.drop k).take p).length = p := by simp; omega
  rw [this]
theorem runpad_any (l : List UInt8) (n : Int) (w : World) (h1 : l.length ≤ 1000000) (h2 : -9223372036854775808 ≤ n) (h3 : n ≤ 9223372036854775807) :
    Calls Tryd.prog 29 #[.string (bs l), .int .i64 n] w fun e w' => e = .returned (runpadV l n) ∧ ∃ q, w' = w.drewN q := by
  by_cases hn : n < 0
  · rw [runpadV, unpadE_neg l n hn, if_neg (by omega)]
    go_enter Tryd.func29, Tryd.ntmps29
    go_wp2
    go_ret3
    exact ⟨rfl, 0, rfl⟩
  · obtain ⟨k, rfl⟩ := Int.eq_ofNat_of_zero_le (show 0 ≤ n by omega)
    by_cases hk : l.length < k
    · rw [runpadV, unpadE_few l k (by omega), if_neg (by omega)]
      go_enter Tryd.func29, Tryd.ntmps29
      go_wp2
      go_ret3
      exact ⟨rfl, 0, rfl⟩
    · have c1 := fun w => hid (rpad_nat k w (by omega))
      have c1' := fun w => hid ((rpad_nat k w (by omega)).mono fun _ _ ⟨a, b⟩ => (⟨a, b.symm⟩ : _ ∧ _ = w))
      have hp := padN_lt k
      by_cases hk2 : l.length < k + padN k
      · rw [runpadV, unpadE_few l k hk2, if_neg (by omega)]
        generalize padN k = p at *
        go_enter Tryd.func29, Tryd.ntmps29
        go_wp2_with (go_at_call 32; refine (c1 _).out.mono ?_; rintro e w1 ⟨rfl, rfl⟩)
        go_ret3
        exact ⟨rfl, 0, rfl⟩
      · have c2 := fun w => hid (trim_any ((l.drop k).take (padN k)) w (by simp; omega))
        have hiff := trim0_iff l k (padN k) (by omega)
        have htd : (l.take (k + padN k)).drop k = (l.drop k).take (padN k) := by rw [List.drop_take, Nat.add_sub_cancel_left]
        by_cases hz : (l.drop k).take (padN k) = List.replicate (padN k) 0
        · rw [runpadV, unpadE_ok l k (by omega) hz, if_pos rfl, padI_nat]
          have hq := hiff.2 hz
          clear hiff hz
          rw [hq] at c2
          clear hq
          generalize padN k = p at *
          have hkl : ¬ (l.length : Int) < k + p := by omega
          go_enter Tryd.func29, Tryd.ntmps29
          go_wp2_with first
            | (go_at_call 32; refine (c1 _).out.mono ?_; rintro e w1 ⟨rfl, rfl⟩)
            | (go_at_call 65; refine (c2 _).out.mono ?_; rintro e w1 ⟨rfl, hq⟩; have Hq := hid hq; clear hq)
          go_quiet ((go_at_call 32; exact Calls.quiet_of_same (c1' _).out))
          go_wp2
          go_ret3
          obtain ⟨q, rfl⟩ := Hq.out
          exact ⟨by rw [Int.toNat_natCast]; rfl, _, drewN_drewN _ _ _⟩
        · rw [runpadV, unpadE_bad l k (by omega) hz, if_neg (by omega)]
          have hq : ¬ trimL (trimR ((l.drop k).take (padN k)) 0) 0 = [] := fun h => hz (hiff.1 h)
          clear hiff hz
          generalize trimL (trimR ((l.drop k).take (padN k)) 0) 0 = t at *
          have ht : t.isEmpty = false := by cases t <;> simp_all
          generalize padN k = p at *
          have hkl : ¬ (l.length : Int) < k + p := by omega
          clear hq
          go_enter Tryd.func29, Tryd.ntmps29
          go_wp2_with first
            | (go_at_call 32; refine (c1 _).out.mono ?_; rintro e w1 ⟨rfl, rfl⟩)
            | (go_at_call 65; refine (c2 _).out.mono ?_; rintro e w1 ⟨rfl, hq⟩; have Hq := hid hq; clear hq)
          go_ret3
          exact ⟨rfl, Hq.out⟩
end Go.Proofs.YtdgfeanjeoendaaDoor
