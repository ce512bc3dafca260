/- strings.Trim at a cutset of one byte of 0. -/
import Derived.Test.YtfeenkofnbefaaaGreatDoorProg
import Derived.Test.YtfeenkofnbefaaaGreatDoorBase
import Derived.Deep.QuietTactic
import Derived.BigQuiet
import Derived.Test.YtfeenkofnbefaaaGreatDoorAhsW
import Derived.Test.YtfeenkofnbefaaaGreatDoorField
import Derived.Test.YtfeenkofnbefaaaGreatDoorBlk
import Derived.Maps.AppendAt
set_option linter.unusedSectionVars false
set_option linter.unusedSimpArgs false
set_option linter.unusedVariables false
namespace Go.Proofs.YtfeenkofnbefaaaGreatDoor
open Go.RowKit
set_option linter.unusedVariables false
set_option maxRecDepth 100000
def trimR (l : List UInt8) (c : UInt8) : List UInt8 := (l.reverse.dropWhile (· == c)).reverse
def trimL (l : List UInt8) (c : UInt8) : List UInt8 := l.dropWhile (· == c)
theorem trimR_snoc (l : List UInt8) (x c : UInt8) : trimR (l ++ [x]) c = if x = c then trimR l c else l ++ [x] := by
  unfold trimR
  rw [List.reverse_append, List.reverse_singleton, List.singleton_append, List.dropWhile_cons]
  by_cases h : x = c
  · subst h; simp
  · simp [h]
theorem trim_nil (l : List UInt8) (c : UInt8) : trimL (trimR l c) c = [] ↔ l = List.replicate l.length c := by
  have h1 : ∀ l : List UInt8, trimL l c = [] ↔ ∀ x ∈ l, x = c := by
    intro l; unfold trimL
    induction l with
    | nil => simp
    | cons a l ih =>
      rw [List.dropWhile_cons]
      by_cases ha : a = c
      · subst ha; simp [ih]
      · simp [ha]
  have h2 : (∀ x ∈ trimR l c, x = c) ↔ ∀ x ∈ l, x = c := by
    constructor
    · intro h
      rw [← List.reverse_reverse l]
      unfold trimR at h
      generalize l.reverse = r at *
      intro x hx
      induction r with
      | nil => simp at hx
      | cons a r ih =>
        rw [List.dropWhile_cons] at h
        by_cases ha : a = c
        · subst ha
          simp at h hx
          rcases hx with hx | rfl
          · exact ih (by simpa using h) (by simpa using hx)
          · rfl
        · rw [if_neg (by simpa using ha)] at h
          exact h x hx
    · intro h x hx
      unfold trimR at hx
      exact h x (by simpa using (List.dropWhile_sublist _).subset (List.mem_reverse.1 hx))
  rw [h1, h2, List.eq_replicate_iff]
  simp
theorem trimRight_any (l : List UInt8) (c : UInt8) (w : World) (hl : l.length ≤ 1000000) :
    Calls Tryz.prog 140 #[.string (bs l), .int .u8 (c.toNat : Nat)] w fun e w' => e = .returned (.string (bs (trimR l c))) ∧ w' = w := by
  obtain ⟨t, ht⟩ : ∃ t, t = trimR l c := ⟨_, rfl⟩
  rw [← ht]
  have Ht := hid ht; clear ht
  go_enter Tryz.func140, Tryz.ntmps140
  go_wp2
  go_loop [0] (fun s => ∃ x : List UInt8, x.length ≤ 1000000 ∧ s = .string (bs x) ∧ t = trimR x c) (fun s => strLen s)
  case atStart => exact ⟨l, hl, rfl, Ht.out⟩
  case round =>
    obtain ⟨x, hx, rfl, htx⟩ := hrel
    have Htx := hid htx; clear htx
    rcases List.eq_nil_or_concat x with rfl | ⟨y, a, rfl⟩
    · go_wp2
      go_ret
      exact ⟨by rw [Htx.out]; rfl, rfl⟩
    · rw [List.concat_eq_append] at *
      have hy : y.length ≤ 999999 := by simp at hx; omega
      clear hx
      by_cases hac : a = c
      · subst hac
        have hr : trimR (y ++ [a]) a = trimR y a := by rw [trimR_snoc, if_pos rfl]
        have Hr := hid hr; clear hr
        have h0 : (0 : Int) < y.length + 1 := by omega
        go_wp2
        go_round
        case rel => exact ⟨y, by omega, rfl, by rw [Htx.out, Hr.out]⟩
        case measure => simp [strLen, bs_size]
      · have hr : trimR (y ++ [a]) c = y ++ [a] := by rw [trimR_snoc, if_neg hac]
        have Hr := hid hr; clear hr
        have h0 : (0 : Int) < y.length + 1 := by omega
        have hne : ((a.toNat : Int) == (c.toNat : Int)) = false := by
          rw [beq_eq_false_iff_ne]; intro h; exact hac (UInt8.toNat_inj.1 (by omega))
        clear hac
        go_wp2
        go_ret
        exact ⟨by rw [Htx.out, Hr.out]; rfl, rfl⟩
theorem trimLeft_any (l : List UInt8) (c : UInt8) (w : World) (hl : l.length ≤ 1000000) :
    Calls Tryz.prog 139 #[.string (bs l), .int .u8 (c.toNat : Nat)] w fun e w' => e = .returned (.string (bs (trimL l c))) ∧ w' = w := by
  obtain ⟨t, ht⟩ : ∃ t, t = trimL l c := ⟨_, rfl⟩
  rw [← ht]
  have Ht := hid ht; clear ht
  go_enter Tryz.func139, Tryz.ntmps139
  go_wp2
  go_loop [0] (fun s => ∃ x : List UInt8, x.length ≤ 1000000 ∧ s = .string (bs x) ∧ t = trimL x c) (fun s => strLen s)
  case atStart => exact ⟨l, hl, rfl, Ht.out⟩
  case round =>
    obtain ⟨x, hx, rfl, htx⟩ := hrel
    have Htx := hid htx; clear htx
    rcases x with _ | ⟨a, y⟩
    · go_wp2
      go_ret
      exact ⟨by rw [Htx.out]; rfl, rfl⟩
    · have h0 : (0 : Int) < y.length + 1 := by omega
      simp only [List.length_cons] at hx
      by_cases hac : a = c
      · subst hac
        have hr : trimL (a :: y) a = trimL y a := by simp [trimL]
        have Hr := hid hr; clear hr
        go_wp2
        go_round
        case rel => exact ⟨y, by omega, rfl, by rw [Htx.out, Hr.out]⟩
        case measure => simp [strLen, bs_size]
      · have hr : trimL (a :: y) c = a :: y := by simp [trimL, hac]
        have Hr := hid hr; clear hr
        have hne : ((a.toNat : Int) == (c.toNat : Int)) = false := by
          rw [beq_eq_false_iff_ne]; intro h; exact hac (UInt8.toNat_inj.1 (by omega))
        clear hac
        go_wp2
        go_ret
        exact ⟨by rw [Htx.out, Hr.out]; rfl, rfl⟩
theorem trim_any (l : List UInt8) (w : World) (hl : l.length ≤ 1000000) :
    Calls Tryz.prog 111 #[.string (bs l), .string ⟨#[0]⟩] w fun e w' => e = .returned (.string (bs (trimL (trimR l 0) 0))) ∧ ∃ q, w' = w.drewN q := by
  have hz : (⟨#[0]⟩ : ByteArray) = bs [0] := rfl
  rw [hz]
  have hrl : (trimR l 0).length ≤ 1000000 := by
    unfold trimR
    rw [List.length_reverse]
    exact Nat.le_trans (List.dropWhile_sublist _).length_le (by simpa using hl)
  have c1 : ∀ w, Hid (Calls Tryz.prog 140 #[.string (bs l), .int .u8 0] w fun e w' => e = .returned (.string (bs (trimR l 0))) ∧ w' = w) := fun w => trimRight_any l 0 w hl
  have c2 : ∀ w, Hid (Calls Tryz.prog 139 #[.string (bs (trimR l 0)), .int .u8 0] w fun e w' => e = .returned (.string (bs (trimL (trimR l 0) 0))) ∧ w' = w) := fun w => trimLeft_any (trimR l 0) 0 w hrl
  rcases l with _ | ⟨a, y⟩
  · clear c1 c2
    go_enter Tryz.func111, Tryz.ntmps111
    go_wp2
    go_ret
    exact ⟨rfl, 0, rfl⟩
  · generalize trimR (a :: y) 0 = r at *
    generalize trimL r 0 = t at *
    go_enter Tryz.func111, Tryz.ntmps111
    go_wp2
    go_quiet ((first | (go_at_call 140; exact Calls.quiet_of_same (c1 _).out) | (go_at_call 139; exact Calls.quiet_of_same (c2 _).out)))
    go_wp2
    go_ret
    exact ⟨rfl, _, rfl⟩
end Go.Proofs.YtfeenkofnbefaaaGreatDoor

namespace Go.Proofs.YtfeenkofnbefaaaGreatDoor
open Go.RowKit
set_option linter.unusedVariables false
set_option maxRecDepth 100000
def runpadV (l : List UInt8) (n : Int) : Value := .tuple (if unpadE l n = 0 then #[.string (bs (l.take n.toNat)), .int .i64 (n + padI n), .int .i64 0] else #[.string (bs []), .int .i64 0, .int .i64 (unpadE l n : Nat)])
theorem rpad_nat (n : Nat) (w : World) (h1 : n ≤ 9223372036854775807) :
    Calls Tryz.prog 75 #[.int .i64 n] w fun e w' => e = .returned (.int .i64 (padN n : Nat)) ∧ w = w' := by
  have := rpad_any n w (by omega) (by omega)
  rwa [padI_nat] at this
theorem drewN_drewN (w : World) (a b : Nat) : (w.drewN a).drewN b = w.drewN (a + b) := by
  simp [World.drewN, Nat.add_assoc]
theorem trim0_iff (l : List UInt8) (k p : Nat) (hp : k + p ≤ l.length) : trimL (trimR ((l.drop k).take p) 0) 0 = [] ↔ (l.drop k).take p = List.replicate p 0 := by
  rw [trim_nil]
  have : ((l.drop k).take p).length = p := by simp; omega
  rw [this]
theorem runpad_any (l : List UInt8) (n : Int) (w : World) (h1 : l.length ≤ 1000000) (h2 : -9223372036854775808 ≤ n) (h3 : n ≤ 9223372036854775807) :
    Calls Tryz.prog 79 #[.string (bs l), .int .i64 n] w fun e w' => e = .returned (runpadV l n) ∧ ∃ q, w' = w.drewN q := by
  by_cases hn : n < 0
  · rw [runpadV, unpadE_neg l n hn, if_neg (by omega)]
    go_enter Tryz.func79, Tryz.ntmps79
    go_wp2
    go_ret3
    exact ⟨rfl, 0, rfl⟩
  · obtain ⟨k, rfl⟩ := Int.eq_ofNat_of_zero_le (show 0 ≤ n by omega)
    by_cases hk : l.length < k
    · rw [runpadV, unpadE_few l k (by omega), if_neg (by omega)]
      go_enter Tryz.func79, Tryz.ntmps79
      go_wp2
      go_ret3
      exact ⟨rfl, 0, rfl⟩
    · have c1 := fun w => hid (rpad_nat k w (by omega))
      have c1' := fun w => hid ((rpad_nat k w (by omega)).mono fun _ _ ⟨a, b⟩ => (⟨a, b.symm⟩ : _ ∧ _ = w))
      have hp := padN_lt k
      by_cases hk2 : l.length < k + padN k
      · rw [runpadV, unpadE_few l k hk2, if_neg (by omega)]
        generalize padN k = p at *
        go_enter Tryz.func79, Tryz.ntmps79
        go_wp2_with (go_at_call 75; refine (c1 _).out.mono ?_; rintro e w1 ⟨rfl, rfl⟩)
        go_ret3
        exact ⟨rfl, 0, rfl⟩
      · have c2 := fun w => hid (trim_any ((l.drop k).take (padN k)) w (by simp; omega))
        have hiff := trim0_iff l k (padN k) (by omega)
        have htd : (l.take (k + padN k)).drop k = (l.drop k).take (padN k) := by rw [List.drop_take, Nat.add_sub_cancel_left]
        by_cases hz : (l.drop k).take (padN k) = List.replicate (padN k) 0
        · rw [runpadV, unpadE_ok l k (by omega) hz, if_pos rfl, padI_nat]
          have hq := hiff.2 hz
          clear hiff hz
          rw [hq] at c2
          clear hq
          generalize padN k = p at *
          have hkl : ¬ (l.length : Int) < k + p := by omega
          go_enter Tryz.func79, Tryz.ntmps79
          go_wp2_with first
            | (go_at_call 75; refine (c1 _).out.mono ?_; rintro e w1 ⟨rfl, rfl⟩)
            | (go_at_call 111; refine (c2 _).out.mono ?_; rintro e w1 ⟨rfl, hq⟩; have Hq := hid hq; clear hq)
          go_quiet ((go_at_call 75; exact Calls.quiet_of_same (c1' _).out))
          go_wp2
          go_ret3
          obtain ⟨q, rfl⟩ := Hq.out
          exact ⟨by rw [Int.toNat_natCast]; rfl, _, drewN_drewN _ _ _⟩
        · rw [runpadV, unpadE_bad l k (by omega) hz, if_neg (by omega)]
          have hq : ¬ trimL (trimR ((l.drop k).take (padN k)) 0) 0 = [] := fun h => hz (hiff.1 h)
          clear hiff hz
          generalize trimL (trimR ((l.drop k).take (padN k)) 0) 0 = t at *
          have ht : t.isEmpty = false := by cases t <;> simp_all
          generalize padN k = p at *
          have hkl : ¬ (l.length : Int) < k + p := by omega
          clear hq
          go_enter Tryz.func79, Tryz.ntmps79
          go_wp2_with first
            | (go_at_call 75; refine (c1 _).out.mono ?_; rintro e w1 ⟨rfl, rfl⟩)
            | (go_at_call 111; refine (c2 _).out.mono ?_; rintro e w1 ⟨rfl, hq⟩; have Hq := hid hq; clear hq)
          go_ret3
          exact ⟨rfl, Hq.out⟩
end Go.Proofs.YtfeenkofnbefaaaGreatDoor

namespace Go.Proofs.YtfeenkofnbefaaaGreatDoor
open Go.RowKit
set_option linter.unusedVariables false
set_option maxRecDepth 100000
/-- the headers that bytes are: what was read, what is wrong (0: nothing), and where -/
def ahsP : Nat → List UInt8 → Nat → List (Nat × List UInt8) × Nat × Int
  | 0, _, _ => ([], 0, -1)
  | f + 1, rest, at_ =>
    if rest.length = 0 then ([], 0, -1) else if rest.length < 3 then ([], 7, at_) else
      if unpadE rest (3 + num (rest.take 2) : Nat) = 0 then
        (((rest.getD 2 0).toNat, (rest.take (3 + num (rest.take 2))).drop 3) :: (ahsP f (rest.drop (3 + num (rest.take 2) + padN (3 + num (rest.take 2)))) (at_ + (3 + num (rest.take 2) + padN (3 + num (rest.take 2))))).1,
          (ahsP f (rest.drop (3 + num (rest.take 2) + padN (3 + num (rest.take 2)))) (at_ + (3 + num (rest.take 2) + padN (3 + num (rest.take 2))))).2)
      else ([], unpadE rest (3 + num (rest.take 2) : Nat), at_)
def ahsCells (xs : List (Nat × List UInt8)) : List Value := xs.flatMap fun x => [.int .i64 (x.1 : Nat), .string (bs x.2)]
theorem infoAhs : (Tryz.prog.info? 124).map (fun i => (i.zero, i.size, i.bytes)) = some (some (.agg #[.int .i64 0, .string ⟨#[]⟩]), 2, 24) := by kernel_rfl
def RAhs (l : List UInt8) (w : World) (v at_ : Value) (wr : World) : Prop :=
  ∃ (k f : Nat) (xs : List (Nat × List UInt8)), k ≤ l.length ∧ l.length - k < f ∧ 4 * xs.length ≤ k ∧ at_ = .int .i64 (k : Nat) ∧
    ahsP (l.length + 1) l 0 = (xs ++ (ahsP f (l.drop k) k).1, (ahsP f (l.drop k) k).2) ∧ wr.ownsRow w.heap.size 124 2 v xs.length (ahsCells xs) ∧ Below w.heap.size w wr
theorem ahsCells_snoc (xs : List (Nat × List UInt8)) (x : Nat × List UInt8) : ahsCells (xs ++ [x]) = ahsCells xs ++ [.int .i64 (x.1 : Nat), .string (bs x.2)] := by
  simp [ahsCells]
theorem num2_lt (l : List UInt8) : num (l.take 2) ≤ 65535 := by
  have h1 := num_lt (l.take 2)
  have h2 : (l.take 2).length ≤ 2 := by simp; omega
  have h3 := Nat.pow_le_pow_right (n := 256) (by omega) h2
  omega
def AhsPost (l : List UInt8) (w : World) (e : Ending) (w' : World) : Prop :=
  (∃ v er, e = .returned (.tuple #[v, er]) ∧ ErrIs w' er (ahsP (l.length + 1) l 0).2.1 (ahsP (l.length + 1) l 0).2.2 ∧
      Sl w' v 2 (if (ahsP (l.length + 1) l 0).2.1 = 0 then (ahsP (l.length + 1) l 0).1.length else 0) (if (ahsP (l.length + 1) l 0).2.1 = 0 then ahsCells (ahsP (l.length + 1) l 0).1 else [])) ∧ Below w.heap.size w w'
theorem ahsRead_any (l : List UInt8) (w : World) (hl : l.length ≤ 1020) (hg : EType w) :
    Calls Tryz.prog 83 #[.string (bs l)] w fun e w' => AhsPost l w e w' := by
  go_enter Tryz.func83, Tryz.ntmps83
  go_wp2
  go_loopw [4, 5] (fun v at_ wr => RAhs l w v at_ wr) (fun _ at_ _ => l.length - (intOf at_).toNat)
  case atStart => exact ⟨0, l.length + 1, [], by omega, by omega, by simp, rfl, by simp, by exact World.ownsRow_nil _ _ _ _, Below.refl _ _⟩
  case round =>
    obtain ⟨k, f, xs, hk, hf, hx, rfl, heq, hown, hb⟩ := hrel
    obtain ⟨f, rfl⟩ : ∃ g, f = g + 1 := ⟨f - 1, by omega⟩
    have hB := hb.size
    have hrl : (l.drop k).length = l.length - k := by simp
    by_cases h0 : l.length - k = 0
    · have e : ahsP (f + 1) (l.drop k) k = ([], 0, -1) := by rw [ahsP, if_pos (by omega)]
      rw [e] at heq
      simp only [List.append_nil] at heq
      have Heq := hid heq; clear heq e
      obtain rfl : k = l.length := by omega
      go_wp2
      go_ret2
      refine ⟨⟨u4, .nilIface, rfl, ?_, ?_⟩, hb⟩
      · rw [Heq.out]; exact .nil
      · rw [Heq.out]; exact sl_of_owns hown
    · by_cases h3 : l.length - k < 3
      · have e : ahsP (f + 1) (l.drop k) k = ([], 7, ((k : Nat) : Int)) := by rw [ahsP, if_neg (by omega), if_pos (by omega)]
        rw [e] at heq
        simp only [List.append_nil] at heq
        have Heq := hid heq; clear heq e
        go_wp2
        go_ret2
        refine ⟨⟨_, _, rfl, ?_, ?_⟩, hb.alloc hB _⟩
        · rw [Heq.out]; exact .at_ 7 (by omega) k wr.heap.size (by simp) (by simp)
        · rw [Heq.out]; exact sl_nil _ _
      · have hn := num2_lt (l.drop k)
        have c1 := fun w => hid (get_any (bs ((l.drop k).take 2)) w (by simp [bs_size]; omega))
        have c2 := fun w => hid (unpad_any (l.drop k) (3 + num ((l.drop k).take 2) : Nat) w (by omega) (by omega) (by omega))
        have hc1 : (bs ((l.drop k).take 2)).size ≤ 8 := by simp [bs_size]; omega
        simp only [if_pos hc1] at c1
        rw [show (bs ((l.drop k).take 2)).data.toList = (l.drop k).take 2 from by simp [bs]] at c1
        clear hc1
        unfold unpadV at c2
        by_cases hu : unpadE (l.drop k) (3 + num ((l.drop k).take 2) : Nat) = 0
        · simp only [if_pos hu, Int.toNat_natCast, padI_nat] at c2
          have hfew : ¬ (l.drop k).length < (3 + num ((l.drop k).take 2)) + padN (3 + num ((l.drop k).take 2)) := fun h => by rw [unpadE_few _ _ h] at hu; omega
          have hp4 := padN_lt (3 + num ((l.drop k).take 2))
          have hp0 : 4 ≤ 3 + num ((l.drop k).take 2) + padN (3 + num ((l.drop k).take 2)) := by unfold padN; omega
          have e : ahsP (f + 1) (l.drop k) k = ((((l.drop k).getD 2 0).toNat, ((l.drop k).take (3 + num ((l.drop k).take 2))).drop 3) :: (ahsP f ((l.drop k).drop (3 + num ((l.drop k).take 2) + padN (3 + num ((l.drop k).take 2)))) (k + (3 + num ((l.drop k).take 2) + padN (3 + num ((l.drop k).take 2))))).1,
              (ahsP f ((l.drop k).drop (3 + num ((l.drop k).take 2) + padN (3 + num ((l.drop k).take 2)))) (k + (3 + num ((l.drop k).take 2) + padN (3 + num ((l.drop k).take 2))))).2) := by rw [ahsP, if_neg (by omega), if_neg (by omega), if_pos hu]
          rw [e, List.drop_drop] at heq
          have hT2 : ∀ (h : 2 < ((l.drop k).take (3 + num ((l.drop k).take 2))).length), ((l.drop k).take (3 + num ((l.drop k).take 2)))[2]'h = (l.drop k).getD 2 0 := by
            intro h; rw [List.getElem_take, List.getD, List.getElem?_eq_getElem (by omega)]; rfl
          have hT3 : 3 ≤ ((l.drop k).take (3 + num ((l.drop k).take 2))).length := by simp; omega
          generalize (l.drop k).getD 2 0 = K at *
          clear hu e
          generalize (l.drop k).take (3 + num ((l.drop k).take 2)) = T at *
          generalize num ((l.drop k).take 2) = n at *
          generalize padN (3 + n) = p at *
          have Heq := hid heq; clear heq
          go_wp2_with first
            | (go_at_call 114; refine (c1 _).out.mono ?_; rintro e w1 ⟨rfl, rfl⟩)
            | (go_at_call 84; refine (c2 _).out.mono ?_; rintro e w2 ⟨rfl, q2, hq2⟩; have hb2 : Below w.heap.size w w2 := (by rw [hq2]; exact below_drewN hb _); have hown2 : w2.ownsRow w.heap.size 124 2 u4 xs.length (ahsCells xs) := (by rw [hq2]; exact hown); clear hq2)
          have hTi : (2 : Int) < (T.length : Int) := by omega
          have hwK : IntKind.i64.wrap (K.toNat : Int) = (K.toNat : Int) := by have := K.toNat_lt; rw [IntKind.wrap_i64]; omega
          have hTj : (3 : Int) ≤ (T.length : Int) := by omega
          go_wp2
          go_region_law (refine step_append_own rfl (.tmp 53) (.tmp 60) 38 rfl w.heap.size 124 (.agg #[.int .i64 0, .string ⟨#[]⟩]) 2 24 Tryz.underlying38 infoAhs rfl (by decide) u4 xs.length (ahsCells xs) (by simp [Act.eval]) (hown2.alloc _) ⟨w2.heap.size, 0, none⟩ 1 1 [.int .i64 (K.toNat : Nat), .string (bs (T.drop 3))] (by simp [Act.eval]) rfl (cell_two_new _ _ _ _) (by simp [Value.oneCell']) (by unfold maxLen; omega) (by omega) (by simp; have := hb2.size; omega) ?_; intro v' w3 hown3 hgrow _)
          simp only [List.getElem_toArray, List.getElem_cons_succ, List.getElem_cons_zero, Act.put, List.setIfInBounds_toArray, List.set_cons_succ, List.set_cons_zero]
          go_wp2
          go_roundw
          case rel =>
            refine ⟨k + (3 + n + p), f, xs ++ [(K.toNat, T.drop 3)], by omega, by omega, by simp; omega, by go_num, ?_, ?_, below_append (hb2.alloc hb2.size _).drew (hown2.alloc _) hgrow (by have := hb2.size; simp; omega)⟩
            · rw [Heq.out]; simp
            · rw [ahsCells_snoc, List.length_append]; exact hown3
          case measure => simp [intOf]; omega
        · simp only [if_neg hu] at c2
          have e : ahsP (f + 1) (l.drop k) k = ([], unpadE (l.drop k) (3 + num ((l.drop k).take 2) : Nat), ((k : Nat) : Int)) := by rw [ahsP, if_neg (by omega), if_neg (by omega), if_neg hu]
          rw [e] at heq
          simp only [List.append_nil] at heq
          have Heq := hid heq; clear heq e
          have hpos : 0 < unpadE (l.drop k) (3 + num ((l.drop k).take 2) : Nat) := by omega
          have c3 := fun w1 (hb : Below w.heap.size w w1) => hid (tell_any (.iface 31 (.int .i64 (unpadE (l.drop k) (3 + num ((l.drop k).take 2) : Nat) : Nat))) _ _ w1 (hg.below hb) (.bare _ hpos))
          clear hu
          generalize unpadE (l.drop k) (3 + num ((l.drop k).take 2) : Nat) = ue at *
          generalize num ((l.drop k).take 2) = n at *
          go_wp2_with first
            | (go_at_call 114; refine (c1 _).out.mono ?_; rintro e w1 ⟨rfl, rfl⟩)
            | (go_at_call 84; refine (c2 _).out.mono ?_; rintro e w2 ⟨rfl, q2, hq2⟩; have hb2 : Below w.heap.size w w2 := (by rw [hq2]; exact below_drewN hb _); clear hq2)
            | (go_at_call 52; refine (c3 _ hb2).out.mono ?_; rintro e w3 ⟨rfl, hb3⟩)
          go_ret2
          refine ⟨⟨_, _, rfl, ?_, ?_⟩, (hb2.trans (hb3.mono hb2.size)).alloc (Nat.le_trans hb2.size hb3.size) _⟩
          · rw [Heq.out]; exact .at_ ue hpos k w3.heap.size (by simp) (by simp)
          · have hne : ¬ ue = 0 := by omega
            rw [Heq.out]; simp only [if_neg hne]; exact sl_nil _ _
end Go.Proofs.YtfeenkofnbefaaaGreatDoor
