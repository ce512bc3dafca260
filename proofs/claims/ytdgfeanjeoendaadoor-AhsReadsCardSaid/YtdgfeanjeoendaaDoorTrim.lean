/- strings.Trim at a cutset of one byte of 0. -/
import Derived.Test.YtdgfeanjeoendaaDoorProg
import Derived.Test.YtdgfeanjeoendaaDoorBase
import Derived.Deep.QuietTactic
import Derived.BigQuiet
namespace Go.Proofs.YtdgfeanjeoendaaDoor
open Go.RowKit
set_option linter.unusedVariables false
set_option maxRecDepth 100000
def trimR (l : List UInt8) (c : UInt8) : List UInt8 := (l.reverse.dropWhile (· == c)).reverse
def trimL (l : List UInt8) (c : UInt8) : List UInt8 := l.dropWhile (· == c)
theorem trimR_snoc (l : List UInt8) (x c : UInt8) : trimR (l ++ [x]) c = if x = c then trimR l c else l ++ [x] := by
  unfold trimR
  rw [List.reverse_append, List.reverse_singleton, List.singleton_append, List.dropWhile_cons]
  by_cases h : x = c
  · subst h; simp
  · simp [h]
theorem trim_nil (l : List UInt8) (c : UInt8) : trimL (trimR l c) c = [] ↔ l = List.replicate l.length c := by
  have h1 : ∀ l : List UInt8, trimL l c = [] ↔ ∀ x ∈ l, x = c := by
    intro l; unfold trimL
    induction l with
    | nil => simp
    | cons a l ih =>
      rw [List.dropWhile_cons]
      by_cases ha : a = c
      · subst ha; simp [ih]
      · simp [ha]
  have h2 : (∀ x ∈ trimR l c, x = c) ↔ ∀ x ∈ l, x = c := by
    constructor
    · intro h
      rw [← List.reverse_reverse l]
      unfold trimR at h
      generalize l.reverse = r at *
      intro x hx
      induction r with
      | nil => simp at hx
      | cons a r ih =>
        rw [List.dropWhile_cons] at h
        by_cases ha : a = c
        · subst ha
          simp at h hx
          rcases hx with hx | rfl
          · exact ih (by simpa using h) (by simpa using hx)
          · rfl
        · rw [if_neg (by simpa using ha)] at h
          exact h x hx
    · intro h x hx
      unfold trimR at hx
      exact h x (by simpa using (List.dropWhile_sublist _).subset (List.mem_reverse.1 hx))
  rw [h1, h2, List.eq_replicate_iff]
  simp
theorem trimRight_any (l : List UInt8) (c : UInt8) (w : World) (hl : l.length ≤ 1000000) :
    Calls Tryd.prog 86 #[.string (bs l), .int .u8 (c.toNat : Nat)] w fun e w' => e = .returned (.string (bs (trimR l c))) ∧ w' = w := by
  obtain ⟨t, ht⟩ : ∃ t, t = trimR l c := ⟨_, rfl⟩
  rw [← ht]
  have Ht := hid ht; clear ht
  go_enter Tryd.func86, Tryd.ntmps86
  go_wp2
  go_loop [0] (fun s => ∃ x : List UInt8, x.length ≤ 1000000 ∧ s = .string (bs x) ∧ t = trimR x c) (fun s => strLen s)
  case atStart => exact ⟨l, hl, rfl, Ht.out⟩
  case round =>
    obtain ⟨x, hx, rfl, htx⟩ := hrel
    have Htx := hid htx; clear htx
    rcases List.eq_nil_or_concat x with rfl | ⟨y, a, rfl⟩
    · go_wp2
      go_ret
      exact ⟨by rw [Htx.out]; rfl, rfl⟩
    · rw [List.concat_eq_append] at *
      have hy : y.length ≤ 999999 := by simp at hx; omega
      clear hx
      by_cases hac : a = c
      · subst hac
        have hr : trimR (y ++ [a]) a = trimR y a := by rw [trimR_snoc, if_pos rfl]
        have Hr := hid hr; clear hr
        have h0 : (0 : Int) < y.length + 1 := by omega
        go_wp2
        go_round
        case rel => exact ⟨y, by omega, rfl, by rw [Htx.out, Hr.out]⟩
        case measure => simp [strLen, bs_size]
      · have hr : trimR (y ++ [a]) c = y ++ [a] := by rw [trimR_snoc, if_neg hac]
        have Hr := hid hr; clear hr
        have h0 : (0 : Int) < y.length + 1 := by omega
        have hne : ((a.toNat : Int) == (c.toNat : Int)) = false := by
          rw [beq_eq_false_iff_ne]; intro h; exact hac (UInt8.toNat_inj.1 (by omega))
        clear hac
        go_wp2
        go_ret
        exact ⟨by rw [Htx.out, Hr.out]; rfl, rfl⟩
theorem trimLeft_any (l : List UInt8) (c : UInt8) (w : World) (hl : l.length ≤ 1000000) :
    Calls Tryd.prog 85 #[.string (bs l), .int .u8 (c.toNat : Nat)] w fun e w' => e = .returned (.string (bs (trimL l c))) ∧ w' = w := by
  obtain ⟨t, ht⟩ : ∃ t, t = trimL l c := ⟨_, rfl⟩
  rw [← ht]
  have Ht := hid ht; clear ht
  go_enter Tryd.func85, Tryd.ntmps85
  go_wp2
  go_loop [0] (fun s => ∃ x : List UInt8, x.length ≤ 1000000 ∧ s = .string (bs x) ∧ t = trimL x c) (fun s => strLen s)
  case atStart => exact ⟨l, hl, rfl, Ht.out⟩
  case round =>
    obtain ⟨x, hx, rfl, htx⟩ := hrel
    have Htx := hid htx; clear htx
    rcases x with _ | ⟨a, y⟩
    · go_wp2
      go_ret
      exact ⟨by rw [Htx.out]; rfl, rfl⟩
    · have h0 : (0 : Int) < y.length + 1 := by omega
      simp only [List.length_cons] at hx
      by_cases hac : a = c
      · subst hac
        have hr : trimL (a :: y) a = trimL y a := by simp [trimL]
        have Hr := hid hr; clear hr
        go_wp2
        go_round
        case rel => exact ⟨y, by omega, rfl, by rw [Htx.out, Hr.out]⟩
        case measure => simp [strLen, bs_size]
      · have hr : trimL (a :: y) c = a :: y := by simp [trimL, hac]
        have Hr := hid hr; clear hr
        have hne : ((a.toNat : Int) == (c.toNat : Int)) = false := by
          rw [beq_eq_false_iff_ne]; intro h; exact hac (UInt8.toNat_inj.1 (by omega))
        clear hac
        go_wp2
        go_ret
        exact ⟨by rw [Htx.out, Hr.out]; rfl, rfl⟩
theorem trim_any (l : List UInt8) (w : World) (hl : l.length ≤ 1000000) :
    Calls Tryd.prog 65 #[.string (bs l), .string ⟨#[0]⟩] w fun e w' => e = .returned (.string (bs (trimL (trimR l 0) 0))) ∧ ∃ q, w' = w.drewN q := by
  have hz : (⟨#[0]⟩ : ByteArray) = bs [0] := rfl
  rw [hz]
  have hrl : (trimR l 0).length ≤ 1000000 := by
    unfold trimR
    rw [List.length_reverse]
    exact Nat.le_trans (List.dropWhile_sublist _).length_le (by simpa using hl)
  have c1 : ∀ w, Hid (Calls Tryd.prog 86 #[.string (bs l), .int .u8 0] w fun e w' => e = .returned (.string (bs (trimR l 0))) ∧ w' = w) := fun w => trimRight_any l 0 w hl
  have c2 : ∀ w, Hid (Calls Tryd.prog 85 #[.string (bs (trimR l 0)), .int .u8 0] w fun e w' => e = .returned (.string (bs (trimL (trimR l 0) 0))) ∧ w' = w) := fun w => trimLeft_any (trimR l 0) 0 w hrl
  rcases l with _ | ⟨a, y⟩
  · clear c1 c2
    go_enter Tryd.func65, Tryd.ntmps65
    go_wp2
    go_ret
    exact ⟨rfl, 0, rfl⟩
  · generalize trimR (a :: y) 0 = r at *
    generalize trimL r 0 = t at *
    go_enter Tryd.func65, Tryd.ntmps65
    go_wp2
    go_quiet ((first | (go_at_call 86; exact Calls.quiet_of_same (c1 _).out) | (go_at_call 85; exact Calls.quiet_of_same (c2 _).out)))
    go_wp2
    go_ret
    exact ⟨rfl, _, rfl⟩
end Go.Proofs.YtdgfeanjeoendaaDoor
