/- strings.Trim at a cutset of one byte of 0. -/
import Derived.Test.YtejbigoacknfoaaGreatDoorProg
import Derived.Test.YtejbigoacknfoaaGreatDoorBase
import Derived.Deep.QuietTactic
import Derived.BigQuiet
import Derived.Test.YtejbigoacknfoaaGreatDoorPad
set_option linter.unusedSectionVars false
set_option linter.unusedSimpArgs false
set_option linter.unusedVariables false
namespace Go.Proofs.YtejbigoacknfoaaGreatDoor
open Go.RowKit
set_option linter.unusedVariables false
set_option maxRecDepth 100000
def trimR (l : List UInt8) (c : UInt8) : List UInt8 := (l.reverse.dropWhile (· == c)).reverse
def trimL (l : List UInt8) (c : UInt8) : List UInt8 := l.dropWhile (· == c)
theorem trimR_snoc (l : List UInt8) (x c : UInt8) : trimR (l ++ [x]) c = if x = c then trimR l c else l ++ [x] := by
  unfold trimR
  rw [List.reverse_append, List.reverse_singleton, List.singleton_append, List.dropWhile_cons]
  by_cases h : x = c
  · subst h; simp
  · simp [h]
theorem trim_nil (l : List UInt8) (c : UInt8) : trimL (trimR l c) c = [] ↔ l = List.replicate l.length c := by
  have h1 : ∀ l : List UInt8, trimL l c = [] ↔ ∀ x ∈ l, x = c := by
    intro l; unfold trimL
    induction l with
    | nil => simp
    | cons a l ih =>
      rw [List.dropWhile_cons]
      by_cases ha : a = c
      · subst ha; simp [ih]
      · simp [ha]
  have h2 : (∀ x ∈ trimR l c, x = c) ↔ ∀ x ∈ l, x = c := by
    constructor
    · intro h
      rw [← List.reverse_reverse l]
      unfold trimR at h
      generalize l.reverse = r at *
      intro x hx
      induction r with
      | nil => simp at hx
      | cons a r ih =>
        rw [List.dropWhile_cons] at h
        by_cases ha : a = c
        · subst ha
          simp at h hx
          rcases hx with hx | rfl
          · exact ih (by simpa using h) (by simpa using hx)
          · rfl
        · rw [if_neg (by simpa using ha)] at h
          exact h x hx
    · intro h x hx
      unfold trimR at hx
      exact h x (by simpa using (List.dropWhile_sublist _).subset (List.mem_reverse.1 hx))
  rw [h1, h2, List.eq_replicate_iff]
  simp
theorem trimRight_any (l : List UInt8) (c : UInt8) (w : World) (hl : l.length ≤ 1000000) :
    Calls Tryz.prog 174 #[.string (bs l), .int .u8 (c.toNat : Nat)] w fun e w' => e = .returned (.string (bs (trimR l c))) ∧ w' = w := by
  obtain ⟨t, ht⟩ : ∃ t, t = trimR l c := ⟨_, rfl⟩
  rw [← ht]
  have Ht := hid ht; clear ht
  go_enter Tryz.func174, Tryz.ntmps174
  go_wp2
  go_loop [0] (fun s => ∃ x : List UInt8, x.length ≤ 1000000 ∧ s = .string (bs x) ∧ t = trimR x c) (fun s => strLen s)
  case atStart => exact ⟨l, hl, rfl, Ht.out⟩
  case round =>
    obtain ⟨x, hx, rfl, htx⟩ := hrel
    have Htx := hid htx; clear htx
    rcases List.eq_nil_or_concat x with rfl | ⟨y, a, rfl⟩
    · go_wp2
      go_ret
      exact ⟨by rw [Htx.out]; rfl, rfl⟩
    · rw [List.concat_eq_append] at *
      have hy : y.length ≤ 999999 := by simp at hx; omega
      clear hx
      by_cases hac : a = c
      · subst hac
        have hr : trimR (y ++ [a]) a = trimR y a := by rw [trimR_snoc, if_pos rfl]
        have Hr := hid hr; clear hr
        have h0 : (0 : Int) < y.length + 1 := by omega
        go_wp2
        go_round
        case rel => exact ⟨y, by omega, rfl, by rw [Htx.out, Hr.out]⟩
        case measure => simp [strLen, bs_size]
      · have hr : trimR (y ++ [a]) c = y ++ [a] := by rw [trimR_snoc, if_neg hac]
        have Hr := hid hr; clear hr
        have h0 : (0 : Int) < y.length + 1 := by omega
        have hne : ((a.toNat : Int) == (c.toNat : Int)) = false := by
          rw [beq_eq_false_iff_ne]; intro h; exact hac (UInt8.toNat_inj.1 (by omega))
        clear hac
        go_wp2
        go_ret
        exact ⟨by rw [Htx.out, Hr.out]; rfl, rfl⟩
theorem trimLeft_any (l : List UInt8) (c : UInt8) (w : World) (hl : l.length ≤ 1000000) :
    Calls Tryz.prog 173 #[.string (bs l), .int .u8 (c.toNat : Nat)] w fun e w' => e = .returned (.string (bs (trimL l c))) ∧ w' = w := by
  obtain ⟨t, ht⟩ : ∃ t, t = trimL l c := ⟨_, rfl⟩
  rw [← ht]
  have Ht := hid ht; clear ht
  go_enter Tryz.func173, Tryz.ntmps173
  go_wp2
  go_loop [0] (fun s => ∃ x : List UInt8, x.length ≤ 1000000 ∧ s = .string (bs x) ∧ t = trimL x c) (fun s => strLen s)
  case atStart => exact ⟨l, hl, rfl, Ht.out⟩
  case round =>
    obtain ⟨x, hx, rfl, htx⟩ := hrel
    have Htx := hid htx; clear htx
    rcases x with _ | ⟨a, y⟩
    · go_wp2
      go_ret
      exact ⟨by rw [Htx.out]; rfl, rfl⟩
    · have h0 : (0 : Int) < y.length + 1 := by omega
      simp only [List.length_cons] at hx
      by_cases hac : a = c
      · subst hac
        have hr : trimL (a :: y) a = trimL y a := by simp [trimL]
        have Hr := hid hr; clear hr
        go_wp2
        go_round
        case rel => exact ⟨y, by omega, rfl, by rw [Htx.out, Hr.out]⟩
        case measure => simp [strLen, bs_size]
      · have hr : trimL (a :: y) c = a :: y := by simp [trimL, hac]
        have Hr := hid hr; clear hr
        have hne : ((a.toNat : Int) == (c.toNat : Int)) = false := by
          rw [beq_eq_false_iff_ne]; intro h; exact hac (UInt8.toNat_inj.1 (by omega))
        clear hac
        go_wp2
        go_ret
        exact ⟨by rw [Htx.out, Hr.out]; rfl, rfl⟩
theorem trim_any (l : List UInt8) (w : World) (hl : l.length ≤ 1000000) :
    Calls Tryz.prog 131 #[.string (bs l), .string ⟨#[0]⟩] w fun e w' => e = .returned (.string (bs (trimL (trimR l 0) 0))) ∧ ∃ q, w' = w.drewN q := by
  have hz : (⟨#[0]⟩ : ByteArray) = bs [0] := rfl
  rw [hz]
  have hrl : (trimR l 0).length ≤ 1000000 := by
    unfold trimR
    rw [List.length_reverse]
    exact Nat.le_trans (List.dropWhile_sublist _).length_le (by simpa using hl)
  have c1 : ∀ w, Hid (Calls Tryz.prog 174 #[.string (bs l), .int .u8 0] w fun e w' => e = .returned (.string (bs (trimR l 0))) ∧ w' = w) := fun w => trimRight_any l 0 w hl
  have c2 : ∀ w, Hid (Calls Tryz.prog 173 #[.string (bs (trimR l 0)), .int .u8 0] w fun e w' => e = .returned (.string (bs (trimL (trimR l 0) 0))) ∧ w' = w) := fun w => trimLeft_any (trimR l 0) 0 w hrl
  rcases l with _ | ⟨a, y⟩
  · clear c1 c2
    go_enter Tryz.func131, Tryz.ntmps131
    go_wp2
    go_ret
    exact ⟨rfl, 0, rfl⟩
  · generalize trimR (a :: y) 0 = r at *
    generalize trimL r 0 = t at *
    go_enter Tryz.func131, Tryz.ntmps131
    go_wp2
    go_quiet ((first | (go_at_call 174; exact Calls.quiet_of_same (c1 _).out) | (go_at_call 173; exact Calls.quiet_of_same (c2 _).out)))
    go_wp2
    go_ret
    exact ⟨rfl, _, rfl⟩
end Go.Proofs.YtejbigoacknfoaaGreatDoor

namespace Go.Proofs.YtejbigoacknfoaaGreatDoor
open Go.RowKit
set_option linter.unusedVariables false
set_option maxRecDepth 100000
def runpadV (l : List UInt8) (n : Int) : Value := .tuple (if unpadE l n = 0 then #[.string (bs (l.take n.toNat)), .int .i64 (n + padI n), .int .i64 0] else #[.string (bs []), .int .i64 0, .int .i64 (unpadE l n : Nat)])
theorem rpad_nat (n : Nat) (w : World) (h1 : n ≤ 9223372036854775807) :
    Calls Tryz.prog 93 #[.int .i64 n] w fun e w' => e = .returned (.int .i64 (padN n : Nat)) ∧ w = w' := by
  have := rpad_any n w (by omega) (by omega)
  rwa [padI_nat] at this
theorem drewN_drewN (w : World) (a b : Nat) : (w.drewN a).drewN b = w.drewN (a + b) := by
  simp [World.drewN, Nat.add_assoc]
theorem trim0_iff (l : List UInt8) (k p : Nat) (hp : k + p ≤ l.length) : trimL (trimR ((l.drop k).take p) 0) 0 = [] ↔ (l.drop k).take p = List.replicate p 0 := by
  rw [trim_nil]
  have : ((l.drop k).take p).length = p := by simp; omega
  rw [this]
theorem runpad_any (l : List UInt8) (n : Int) (w : World) (h1 : l.length ≤ 1000000) (h2 : -9223372036854775808 ≤ n) (h3 : n ≤ 9223372036854775807) :
    Calls Tryz.prog 88 #[.string (bs l), .int .i64 n] w fun e w' => e = .returned (runpadV l n) ∧ ∃ q, w' = w.drewN q := by
  by_cases hn : n < 0
  · rw [runpadV, unpadE_neg l n hn, if_neg (by omega)]
    go_enter Tryz.func88, Tryz.ntmps88
    go_wp2
    go_ret3
    exact ⟨rfl, 0, rfl⟩
  · obtain ⟨k, rfl⟩ := Int.eq_ofNat_of_zero_le (show 0 ≤ n by omega)
    by_cases hk : l.length < k
    · rw [runpadV, unpadE_few l k (by omega), if_neg (by omega)]
      go_enter Tryz.func88, Tryz.ntmps88
      go_wp2
      go_ret3
      exact ⟨rfl, 0, rfl⟩
    · have c1 := fun w => hid (rpad_nat k w (by omega))
      have c1' := fun w => hid ((rpad_nat k w (by omega)).mono fun _ _ ⟨a, b⟩ => (⟨a, b.symm⟩ : _ ∧ _ = w))
      have hp := padN_lt k
      by_cases hk2 : l.length < k + padN k
      · rw [runpadV, unpadE_few l k hk2, if_neg (by omega)]
        generalize padN k = p at *
        go_enter Tryz.func88, Tryz.ntmps88
        go_wp2_with (go_at_call 93; refine (c1 _).out.mono ?_; rintro e w1 ⟨rfl, rfl⟩)
        go_ret3
        exact ⟨rfl, 0, rfl⟩
      · have c2 := fun w => hid (trim_any ((l.drop k).take (padN k)) w (by simp; omega))
        have hiff := trim0_iff l k (padN k) (by omega)
        have htd : (l.take (k + padN k)).drop k = (l.drop k).take (padN k) := by rw [List.drop_take, Nat.add_sub_cancel_left]
        by_cases hz : (l.drop k).take (padN k) = List.replicate (padN k) 0
        · rw [runpadV, unpadE_ok l k (by omega) hz, if_pos rfl, padI_nat]
          have hq := hiff.2 hz
          clear hiff hz
          rw [hq] at c2
          clear hq
          generalize padN k = p at *
          have hkl : ¬ (l.length : Int) < k + p := by omega
          go_enter Tryz.func88, Tryz.ntmps88
          go_wp2_with first
            | (go_at_call 93; refine (c1 _).out.mono ?_; rintro e w1 ⟨rfl, rfl⟩)
            | (go_at_call 131; refine (c2 _).out.mono ?_; rintro e w1 ⟨rfl, hq⟩; have Hq := hid hq; clear hq)
          go_quiet ((go_at_call 93; exact Calls.quiet_of_same (c1' _).out))
          go_wp2
          go_ret3
          obtain ⟨q, rfl⟩ := Hq.out
          exact ⟨by rw [Int.toNat_natCast]; rfl, _, drewN_drewN _ _ _⟩
        · rw [runpadV, unpadE_bad l k (by omega) hz, if_neg (by omega)]
          have hq : ¬ trimL (trimR ((l.drop k).take (padN k)) 0) 0 = [] := fun h => hz (hiff.1 h)
          clear hiff hz
          generalize trimL (trimR ((l.drop k).take (padN k)) 0) 0 = t at *
          have ht : t.isEmpty = false := by cases t <;> simp_all
          generalize padN k = p at *
          have hkl : ¬ (l.length : Int) < k + p := by omega
          clear hq
          go_enter Tryz.func88, Tryz.ntmps88
          go_wp2_with first
            | (go_at_call 93; refine (c1 _).out.mono ?_; rintro e w1 ⟨rfl, rfl⟩)
            | (go_at_call 131; refine (c2 _).out.mono ?_; rintro e w1 ⟨rfl, hq⟩; have Hq := hid hq; clear hq)
          go_ret3
          exact ⟨rfl, Hq.out⟩
end Go.Proofs.YtejbigoacknfoaaGreatDoor
