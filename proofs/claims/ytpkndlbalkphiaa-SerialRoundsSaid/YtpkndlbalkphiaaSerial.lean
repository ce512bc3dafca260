/- Numbers that go round: the program's and the document's functions answer alike. -/
import Derived.Test.YtpkndlbalkphiaaProg
import Derived.Test.YtpkndlbalkphiaaBase
namespace Go.Proofs.Ytpkndlbalkphiaa
open Go.RowKit
set_option linter.unusedVariables false
def beforeB (a b : Int) : Bool := decide (¬ a = b ∧ (b - a) % 4294967296 < 2147483648)
def withinB (n a b : Int) : Bool := decide ((n - a) % 4294967296 ≤ (b - a) % 4294967296 ∧ ¬ (b + 1) % 4294967296 = a)

theorem before_any (a b : Int) (w : World) (ha : 0 ≤ a) (ha2 : a ≤ 4294967295) (hb : 0 ≤ b) (hb2 : b ≤ 4294967295) :
    Calls Try.prog 5 #[.int .u32 a, .int .u32 b] w fun e w' => e = .returned (.bool (beforeB a b)) ∧ w = w' := by
  go_enter Try.func5, Try.ntmps5
  go_wp2
  all_goals
    go_ret
    refine ⟨ret_bool ?_, rfl⟩
    rw [beforeB, Bool.eq_iff_iff]
    simp
    try omega
theorem rbefore_any (a b : Int) (w : World) (ha : 0 ≤ a) (ha2 : a ≤ 4294967295) (hb : 0 ≤ b) (hb2 : b ≤ 4294967295) :
    Calls Try.prog 6 #[.int .u32 a, .int .u32 b] w fun e w' => e = .returned (.bool (beforeB a b)) ∧ w = w' := by
  go_enter Try.func6, Try.ntmps6
  go_wp2
  all_goals
    go_ret
    refine ⟨ret_bool ?_, rfl⟩
    rw [beforeB, Bool.eq_iff_iff]
    simp
    try omega
theorem after_any (a n : Int) (w : World) (ha : 0 ≤ a) (ha2 : a ≤ 4294967295)  :
    Calls Try.prog 7 #[.int .u32 a, .int .i64 n] w fun e w' => e = .returned (.int .u32 ((a + n) % 4294967296)) ∧ w = w' := by
  go_enter Try.func7, Try.ntmps7
  go_wp2
  all_goals
    go_ret
    refine ⟨ret_int ?_, rfl⟩
    try omega
theorem tmod_cases (n m : Int) (hm : 0 < m) : (0 ≤ n ∧ n.tmod m = n % m) ∨ (n < 0 ∧ n.tmod m = -((-n) % m)) := by
  by_cases h : 0 ≤ n
  · exact .inl ⟨h, Int.tmod_eq_emod_of_nonneg h⟩
  · refine .inr ⟨by omega, ?_⟩
    rw [← Int.tmod_eq_emod_of_nonneg (a := -n) (by omega), Int.neg_tmod, Int.neg_neg]
theorem after_arith (a n : Int) (ha : 0 ≤ a) (ha2 : a ≤ 4294967295) :
    (wrap64 ((wrap64 (a + n.tmod 4294967296)).tmod 4294967296 + 4294967296)).tmod 4294967296 % 4294967296 = (a + n) % 4294967296 := by
  have h1 := tmod_cases n 4294967296 (by omega)
  have e1 : wrap64 (a + n.tmod 4294967296) = a + n.tmod 4294967296 := (by unfold wrap64; omega)
  rw [e1]
  have h2 := tmod_cases (a + n.tmod 4294967296) 4294967296 (by omega)
  have e2 : wrap64 ((a + n.tmod 4294967296).tmod 4294967296 + 4294967296) = (a + n.tmod 4294967296).tmod 4294967296 + 4294967296 := (by unfold wrap64; omega)
  rw [e2]
  have h3 := tmod_cases ((a + n.tmod 4294967296).tmod 4294967296 + 4294967296) 4294967296 (by omega)
  omega
theorem rafter_any (a n : Int) (w : World) (ha : 0 ≤ a) (ha2 : a ≤ 4294967295) (hn : -9223372036854775808 ≤ n) (hn2 : n ≤ 9223372036854775807) :
    Calls Try.prog 8 #[.int .u32 a, .int .i64 n] w fun e w' => e = .returned (.int .u32 ((a + n) % 4294967296)) ∧ w = w' := by
  go_enter Try.func8, Try.ntmps8
  go_wp2
  go_ret
  exact ⟨ret_int (after_arith a n ha ha2), rfl⟩
theorem within_any (n a b : Int) (w : World) (hn : 0 ≤ n) (hn2 : n ≤ 4294967295) (ha : 0 ≤ a) (ha2 : a ≤ 4294967295) (hb : 0 ≤ b) (hb2 : b ≤ 4294967295) :
    Calls Try.prog 9 #[.int .u32 n, .int .u32 a, .int .u32 b] w fun e w' => e = .returned (.bool (withinB n a b)) ∧ w = w' := by
  go_enter Try.func9, Try.ntmps9
  go_wp2
  all_goals
    go_ret
    refine ⟨ret_bool ?_, rfl⟩
    rw [withinB, Bool.eq_iff_iff]
    simp
    try omega
theorem rwithin_any (n a b : Int) (w : World) (hn : 0 ≤ n) (hn2 : n ≤ 4294967295) (ha : 0 ≤ a) (ha2 : a ≤ 4294967295) (hb : 0 ≤ b) (hb2 : b ≤ 4294967295) :
    Calls Try.prog 10 #[.int .u32 n, .int .u32 a, .int .u32 b] w fun e w' => e = .returned (.bool (withinB n a b)) ∧ w = w' := by
  go_enter Try.func10, Try.ntmps10
  go_wp2
  all_goals
    go_ret
    refine ⟨ret_bool ?_, rfl⟩
    rw [withinB, Bool.eq_iff_iff]
    simp
    try omega
theorem serial_law (a b c n : Int) (w : World) (ha : 0 ≤ a) (ha2 : a ≤ 4294967295) (hb : 0 ≤ b) (hb2 : b ≤ 4294967295) (hc : 0 ≤ c) (hc2 : c ≤ 4294967295)
   (hn : -9223372036854775808 ≤ n) (hn2 : n ≤ 9223372036854775807) :
    Calls Try.prog 3 #[.int .u32 a, .int .u32 b, .int .u32 c, .int .i64 n] w fun e w' => e = .returned (.bool true) ∧ Below w.heap.size w w' := by
  go_enter Try.func3, Try.ntmps3
  go_wp2_with first
    | (go_at_call 5; refine (before_any _ _ _ ha ha2 hb hb2).mono ?_; rintro e w' ⟨rfl, rfl⟩)
    | (go_at_call 6; refine (rbefore_any _ _ _ ha ha2 hb hb2).mono ?_; rintro e w' ⟨rfl, rfl⟩)
    | (go_at_call 7; refine (after_any _ _ _ ha ha2).mono ?_; rintro e w' ⟨rfl, rfl⟩)
    | (go_at_call 8; refine (rafter_any _ _ _ ha ha2 hn hn2).mono ?_; rintro e w' ⟨rfl, rfl⟩)
    | (go_at_call 9; refine (within_any _ _ _ _ ha ha2 hb hb2 hc hc2).mono ?_; rintro e w' ⟨rfl, rfl⟩)
    | (go_at_call 10; refine (rwithin_any _ _ _ _ ha ha2 hb hb2 hc hc2).mono ?_; rintro e w' ⟨rfl, rfl⟩)
  all_goals (go_ret; exact ⟨rfl, Below.refl _ _⟩)

end Go.Proofs.Ytpkndlbalkphiaa
