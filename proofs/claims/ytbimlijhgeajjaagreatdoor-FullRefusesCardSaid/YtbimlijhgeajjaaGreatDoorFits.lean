/- The words that a value is: by the document, and by the program. -/
import Derived.Test.YtbimlijhgeajjaaGreatDoorClone
import Derived.Test.YtbimlijhgeajjaaGreatDoorSeen
import Derived.Test.YtbimlijhgeajjaaGreatDoorHeadMk
import Derived.Test.YtbimlijhgeajjaaGreatDoorKeyOf
import Derived.Test.YtbimlijhgeajjaaGreatDoorPlan
set_option linter.unusedSectionVars false
set_option linter.unusedSimpArgs false
set_option linter.unusedVariables false
namespace Go.Proofs.YtbimlijhgeajjaaGreatDoor
open Go Go.RowKit
set_option linter.unusedVariables false
set_option linter.unusedSectionVars false
set_option linter.unusedSimpArgs false
set_option maxRecDepth 100000
theorem grown_then' {w w1 w2 : World} {r : Option Nat} (h : w.grownBy w1 r) (h2 : w1.grownBy w2 r) : w.grownBy w2 r :=
  ⟨h2.os.trans h.os, h2.tape.trans h.tape, h2.output.trans h.output, Nat.le_trans h.size h2.size, fun k hk hne => (h2.block k (Nat.lt_of_lt_of_le hk h.size) hne).trans (h.block k hk hne)⟩
theorem splitL_mem (c : UInt8) (l : List UInt8) : ∀ x ∈ splitL c l, x.length ≤ l.length := by
  induction l with
  | nil => intro x hx; simp [splitL] at hx; simp [hx]
  | cons b l ih =>
    intro x hx
    rw [splitL] at hx
    split at hx
    · rcases List.mem_cons.1 hx with rfl | h
      · simp
      · exact Nat.le_succ_of_le (ih x h)
    · split at hx
      · rw [List.mem_singleton.1 hx]; simp
      · rename_i p ps heq
        rcases List.mem_cons.1 hx with rfl | h
        · have := ih p (by rw [heq]; exact List.mem_cons_self)
          simp; omega
        · exact Nat.le_succ_of_le (ih x (by rw [heq]; exact List.mem_cons_of_mem _ h))
def RL (ps : List (List UInt8)) (i : Value) : Prop :=
  ∃ (k : Nat) (seen : List (List UInt8)), k ≤ ps.length ∧ i = .int .i64 (k : Nat) ∧ (∀ y, seen.contains y = (ps.take k).contains y) ∧ okW [] ps = okW seen (ps.drop k)
def RLj (ps : List (List UInt8)) (x : List UInt8) (k : Nat) (j : Value) : Prop :=
  ∃ m : Nat, m ≤ k ∧ j = .int .i64 (m : Nat) ∧ ∀ y ∈ ps.take m, y ≠ x
theorem listP_bad {s : List UInt8} (h : okW [] (splitL 44 s) = false) : listP s = ([], 3) := by
  unfold listP; rw [if_neg (by rw [h]; simp)]
theorem listP_good {s : List UInt8} (h : okW [] (splitL 44 s) = true) : listP s = (splitL 44 s, 0) := by
  unfold listP; rw [if_pos h]
def ListRPost (R : List (List UInt8) × Nat) (w : World) (e : Ending) (w' : World) : Prop :=
  ∃ v, e = .returned (.tuple #[v, .int .i64 (R.2 : Nat)]) ∧ Sl w' v 1 R.1.length (strCells R.1) ∧ Below w.heap.size w w'
def ListPost (R : List (List UInt8) × Nat) (w : World) (e : Ending) (w' : World) : Prop :=
  ∃ v, e = .returned (.tuple #[v, errV 32 R.2]) ∧ Sl w' v 1 R.1.length (strCells R.1) ∧ Below w.heap.size w w'
theorem sl_arr (w : World) (ps : List (List UInt8)) : Sl (w.alloc (.cells (sArr ps) 9)) (.slice (some ⟨w.heap.size, 0, none⟩) ps.length ps.length) 1 ps.length (strCells ps) := by
  refine ⟨_, _, rfl, by simp [strCells], .inr ⟨w.heap.size, 0, rfl, fun j u hu => ?_⟩⟩
  rw [Nat.zero_add, cell_of_row _ _ _ _ _ _ (heap_alloc_new _ _), sArr_bs]
  simpa [strCells] using hu
theorem arr_cell (w : World) (ps : List (List UInt8)) (j : Nat) (x : List UInt8) (h : ps[j]? = some x) : (w.alloc (.cells (sArr ps) 9)).cell? ⟨w.heap.size, j, none⟩ = some (.string (bs x)) := by
  rw [cell_of_row _ _ _ _ _ _ (heap_alloc_new _ _), sArr_bs]
  simp [h]
set_option maxHeartbeats 4000000 in
theorem rlist_any (s : List UInt8) (w : World) (hl : s.length ≤ 1000000) : Calls Tryz.prog 69 #[.string (bs s)] w fun e w' => ListRPost (listP s) w e w' := by
  have c := fun w => hid (split1_any 44 s w (by omega))
  have h44 : (⟨#[44]⟩ : ByteArray) = bs [44] := rfl
  have hpl : (splitL 44 s).length ≤ s.length + 1 := by rw [splitL_length]; have := List.count_le_length (a := (44 : UInt8)) (l := s); omega
  have hbad := hid (fun h => @listP_bad s h)
  have hgood := hid (fun h => @listP_good s h)
  obtain ⟨P, hP⟩ : ∃ P, listP s = P := ⟨_, rfl⟩
  rw [hP] at hbad hgood ⊢
  clear hP
  have HSL := hid (sl_arr w (splitL 44 s))
  have HAC := hid (arr_cell w (splitL 44 s))
  generalize splitL 44 s = ps at *
  have hpn : ps.length ≤ 1000001 := by omega
  clear hpl
  go_enter Tryz.func69, Tryz.ntmps69
  rw [h44]
  go_wp2_with fail
  refine (c _).out.mono ?_
  rintro e w1 ⟨rfl, rfl⟩
  have hbW : Below w.heap.size w (w.alloc (.cells (sArr ps) 9)) := (Below.refl _ _).alloc (Nat.le_refl _) _
  generalize hW1 : w.alloc (.cells (sArr ps) 9) = W1 at *
  clear hW1 c
  have HBW := hid hbW; clear hbW
  go_wp2
  go_loop [13] (fun i => RL ps i) (fun i => ps.length - (intOf i).toNat)
  case atStart => exact ⟨0, [], by omega, rfl, by simp, rfl⟩
  case round =>
    obtain ⟨k, seen, hk, rfl, hse, hok⟩ := hrel
    by_cases hlt : k < ps.length
    · obtain ⟨x, hx⟩ : ∃ x, ps[k]? = some x := ⟨ps[k], List.getElem?_eq_getElem hlt⟩
      have hc := HAC.out k x hx
      have hst := okW_at ps k hk seen x hx hse
      have hnx := seen_next ps k seen x hx hse
      rw [hst] at hok
      have HOK := hid hok; have HSE := hid hse; have HNX := hid hnx; have HX := hid hx
      clear hok hst hse hnx hx
      go_wp2
      go_loop [22] (fun j => RLj ps x k j) (fun j => k - (intOf j).toNat)
      case atStart => exact ⟨0, by omega, rfl, by simp⟩
      case round =>
        obtain ⟨m, hm, rfl, hno⟩ := hrel
        by_cases hmk : m < k
        · obtain ⟨y, hy⟩ : ∃ y, ps[m]? = some y := ⟨ps[m], List.getElem?_eq_getElem (by omega)⟩
          have hcy := HAC.out m y hy
          obtain ⟨hy1, hy2⟩ := List.getElem?_eq_some_iff.1 hy
          by_cases hxy : x = y
          · have hcon : (ps.take k).contains x = true := by
              rw [List.contains_iff_mem, hxy, ← hy2]
              exact List.mem_take_iff_getElem.2 ⟨m, by omega, rfl⟩
            have hf : okW [] ps = false := by rw [HOK.out, hcon]; simp
            have HR := hid (hbad.out hf)
            have hbe : (x == y) = true := by simpa using hxy
            clear hno hy hy1 hy2 hcon hf hxy
            go_wp2
            go_ret2
            rw [HR.out]
            exact ⟨_, rfl, sl_nil _ _, HBW.out⟩
          · have hbe : (x == y) = false := by simpa using hxy
            have hn2 : ∀ z ∈ ps.take (m + 1), z ≠ x := by
              intro z hz
              rw [List.take_succ_eq_append_getElem hy1, hy2] at hz
              rcases List.mem_append.1 hz with h | h
              · exact hno z h
              · rw [List.mem_singleton.1 h]; exact fun e => hxy e.symm
            have HN2 := hid hn2
            clear hno hy hy1 hy2 hxy hn2
            go_wp2
            go_round
            case rel => exact ⟨m + 1, by omega, by go_num, HN2.out⟩
            case measure => simp [intOf]; omega
        · obtain rfl : m = k := by omega
          have hcon : (ps.take m).contains x = false := by
            cases hq : (ps.take m).contains x with
            | false => rfl
            | true => exact absurd rfl (hno x (List.contains_iff_mem.1 hq))
          have HC := hid hcon
          clear hno hcon
          cases x with
          | nil =>
            have HR := hid (hbad.out (show okW [] ps = false by rw [HOK.out]; simp))
            go_wp2
            go_ret2
            rw [HR.out]
            exact ⟨_, rfl, sl_nil _ _, HBW.out⟩
          | cons a x =>
            have hem : (a :: x).isEmpty = false := rfl
            have HO2 := hid (show okW [] ps = okW ((a :: x) :: seen) (ps.drop (m + 1)) by rw [HOK.out, HC.out]; simp)
            go_wp2
            go_round
            case rel => exact ⟨m + 1, (a :: x) :: seen, by omega, by go_num, HNX.out, HO2.out⟩
            case measure => simp [intOf]; omega
    · obtain rfl : k = ps.length := by omega
      have ht : okW [] ps = true := by rw [hok, okW_end _ _ _ (Nat.le_refl _)]
      have HR := hid (hgood.out ht)
      clear hok ht hse
      go_wp2
      go_ret2
      rw [HR.out]
      exact ⟨_, rfl, HSL.out, HBW.out⟩
def RLk (ps : List (List UInt8)) (b : Nat) (W2 : World) (i : Value) (wr : World) : Prop :=
  ∃ (k : Nat) (seen : List (List UInt8)), k ≤ ps.length ∧ i = .int .i64 (k : Nat) ∧ (∀ y, seen.contains y = (ps.take k).contains y) ∧ okW [] ps = okW seen (ps.drop k) ∧ SeenM wr b k seen ∧ W2.grownBy wr (some b)
set_option maxHeartbeats 4000000 in
theorem list_any (s : List UInt8) (w : World) (hl : s.length ≤ 100000) : Calls Tryz.prog 74 #[.string (bs s)] w fun e w' => ListPost (listP s) w e w' := by
  have c := fun w => hid (split1_any 44 s w (by omega))
  have h44 : (⟨#[44]⟩ : ByteArray) = bs [44] := rfl
  have hpl : (splitL 44 s).length ≤ s.length + 1 := by rw [splitL_length]; have := List.count_le_length (a := (44 : UInt8)) (l := s); omega
  have hbad := hid (fun h => @listP_bad s h)
  have hgood := hid (fun h => @listP_good s h)
  have hlen := hid (fun x (hx : x ∈ splitL 44 s) => splitL_mem 44 s x hx)
  obtain ⟨P, hP⟩ : ∃ P, listP s = P := ⟨_, rfl⟩
  rw [hP] at hbad hgood ⊢
  clear hP
  have HSL := hid (sl_arr w (splitL 44 s))
  have HAC := hid (arr_cell w (splitL 44 s))
  generalize splitL 44 s = ps at *
  have hpn : ps.length ≤ 100001 := by omega
  have hmm := @run_makeMap Tryz.prog
  clear hpl
  go_enter Tryz.func74, Tryz.ntmps74
  rw [h44]
  go_wp2_with fail
  refine (c _).out.mono ?_
  rintro e w1 ⟨rfl, rfl⟩
  have hbW : Below w.heap.size w (w.alloc (.cells (sArr ps) 9)) := (Below.refl _ _).alloc (Nat.le_refl _) _
  have hsW : (w.alloc (.cells (sArr ps) 9)).heap.size = w.heap.size + 1 := by simp
  generalize hW1 : w.alloc (.cells (sArr ps) 9) = W1 at *
  clear hW1 c
  have HBW := hid hbW; clear hbW
  have HSW := hid hsW; clear hsW
  have hM0 := hid (SeenM.made W1)
  have hb2 := hid ((Below.refl W1.heap.size W1).alloc (Nat.le_refl _) (.map #[] 0))
  go_wp2
  go_loopw [13] (fun i wr => RLk ps W1.heap.size (W1.alloc (.map #[] 0)) i wr) (fun i _ => ps.length - (intOf i).toNat)
  case atStart => exact ⟨0, [], by omega, rfl, by simp, rfl, hM0.out, ⟨rfl, rfl, rfl, Nat.le_refl _, fun _ _ _ => rfl⟩⟩
  case round =>
    obtain ⟨k, seen, hk, rfl, hse, hok, hM, hg⟩ := hrel
    have hwW := HSW.out
    have hbr : Below w.heap.size w wr := ((HBW.out.trans (hb2.out.mono HBW.out.size)).grown hg (by have := HBW.out.size; simp; omega) (fun k hk => by cases hk; omega))
    have HBR := hid hbr; clear hbr
    have hcl : ∀ (j : Nat) (x : List UInt8), ps[j]? = some x → wr.cell? ⟨w.heap.size, j, none⟩ = some (.string (bs x)) := fun j x hx =>
      hg.cell ((hb2.out.cell (p := ⟨w.heap.size, j, none⟩) (by simp; omega)).trans (HAC.out j x hx)) (by simp; omega)
    by_cases hlt : k < ps.length
    · obtain ⟨x, hx⟩ : ∃ x, ps[k]? = some x := ⟨ps[k], List.getElem?_eq_getElem hlt⟩
      have hc := hcl k x hx
      have hxl := hlen.out x (List.mem_of_getElem? hx)
      have hst := okW_at ps k hk seen x hx hse
      have hnx := seen_next ps k seen x hx hse
      rw [hst, ← hse] at hok
      have hlk := hM.look x (by omega)
      obtain ⟨w5, hr5, hM5, hg5⟩ := hM.put (by omega) x (by omega)
      have HOK := hid hok; have HNX := hid hnx; have HM5 := hid hM5; have HG5 := hid hg5; have HG := hid hg
      clear hok hst hse hnx hx hM hM5 hg5 hg hcl hM0 hmm hwW
      cases x with
      | nil =>
        have HR := hid (hbad.out (show okW [] ps = false by rw [HOK.out]; simp))
        clear hr5
        go_wp2
        go_ret2
        rw [HR.out]
        exact ⟨_, rfl, sl_nil _ _, HBR.out⟩
      | cons a x =>
        have hem : (a :: x).isEmpty = false := rfl
        cases hq : seen.contains (a :: x) with
        | true =>
          have HR := hid (hbad.out (show okW [] ps = false by rw [HOK.out, hq]; simp))
          rw [hq] at hlk
          clear hr5 hq
          go_wp2
          go_ret2
          rw [HR.out]
          exact ⟨_, rfl, sl_nil _ _, HBR.out⟩
        | false =>
          have HO2 := hid (show okW [] ps = okW ((a :: x) :: seen) (ps.drop (k + 1)) by rw [HOK.out, hq]; simp)
          rw [hq] at hlk
          clear hq
          go_wp2
          go_roundw
          case rel => exact ⟨k + 1, (a :: x) :: seen, by omega, by go_num, HNX.out, HO2.out, HM5.out, grown_then' HG.out HG5.out⟩
          case measure => simp [intOf]; omega
    · obtain rfl : k = ps.length := by omega
      have ht : okW [] ps = true := by rw [hok, okW_end _ _ _ (Nat.le_refl _)]
      have HR := hid (hgood.out ht)
      have hsl := HSL.out.below (Nat.le_refl _) hb2.out
      have hsl2 : Sl wr (.slice (some ⟨w.heap.size, 0, none⟩) ps.length ps.length) 1 ps.length (strCells ps) := by
        refine ⟨_, _, rfl, by simp [strCells], .inr ⟨w.heap.size, 0, rfl, fun j u hu => ?_⟩⟩
        rw [Nat.zero_add]
        have hj : j < ps.length := by have := (List.getElem?_eq_some_iff.1 hu).1; simpa [strCells] using this
        rw [hcl j ps[j] (List.getElem?_eq_getElem hj)]
        simpa [strCells, hj] using hu
      have HS2 := hid hsl2
      clear hok ht hse hM hg hcl hsl hsl2 hM0 hmm hwW
      go_wp2
      go_ret2
      rw [HR.out]
      exact ⟨_, rfl, HS2.out, HBR.out⟩
end Go.Proofs.YtbimlijhgeajjaaGreatDoor

namespace Go.Proofs.YtbimlijhgeajjaaGreatDoor
open Go Go.RowKit
set_option linter.unusedVariables false
set_option linter.unusedSectionVars false
set_option linter.unusedSimpArgs false
set_option maxRecDepth 100000
theorem kinds_seven : ∀ k ∈ keyRows, dnum k.lk = 1 ∨ dnum k.lk = 2 ∨ dnum k.lk = 3 ∨ dnum k.lk = 4 ∨ dnum k.lk = 5 ∨ dnum k.lk = 6 ∨ dnum k.lk = 7 := by decide +kernel
theorem fits_none {name v : List UInt8} (h : findK keyRows name = none) : fitsP name v = 5 := by unfold fitsP; rw [h]
theorem fits_some {name v : List UInt8} {k : KR} (h : findK keyRows name = some k) : fitsP name v = fitsK k v := by unfold fitsP; rw [h]
section
variable (name v : List UInt8) (w : World) (hv : v.length ≤ 100000)
include hv
set_option maxHeartbeats 4000000 in
theorem fits_any (hT : AS w) (hev : EV w) : Calls Tryz.prog 32 #[.string (bs name), .string (bs v)] w fun e w' => e = .returned (errV 32 (fitsP name v)) ∧ Below w.heap.size w w' := by
  have c1 := of_any name w hT
  unfold OfPost at c1
  cases hf : findK keyRows name with
  | none =>
    rw [hf] at c1
    simp only [keyVal, keyErr] at c1
    rw [errV_pos _ _ (by omega)] at c1
    rw [fits_none hf, errV_pos _ _ (by omega)]
    have C1 := hid c1; clear c1 hT hev
    go_enter Tryz.func32, Tryz.ntmps32
    go_wp2_with fail
    refine C1.out.mono ?_
    rintro e w1 ⟨rfl, hb1⟩
    go_wp2
    go_ret
    exact ⟨rfl, hb1.alloc hb1.size _⟩
  | some k =>
    have hk : k ∈ keyRows := List.mem_of_find?_eq_some hf
    obtain ⟨-, -, -, -, -, -, -, -, -, -, hl1, hl2, hl3⟩ := key_fine k hk
    rw [hf] at c1
    simp only [keyVal, keyErr, KR.cells] at c1
    rw [errV_zero] at c1
    have cn := fun w1 (hb : Below w.heap.size w w1) => hid (knumeral_any v (dnum k.ll : Int) (dnum k.lh : Int) w1 (by omega) (by omega) (by omega) (by omega) (by omega) (hev.below hb))
    have cl := fun w1 => hid (list_any v w1 hv)
    unfold ListPost at cl
    have C1 := hid c1; clear c1 hT hev
    have hk7 := kinds_seven k hk
    have HR := hid (show fitsK k v = if dnum k.lk = 1 ∨ dnum k.lk = 2 then (if v = yesL ∨ v = noL then 0 else 3) else if dnum k.lk = 3 ∨ dnum k.lk = 4 ∨ dnum k.lk = 7 then (numeP v (dnum k.ll) (dnum k.lh)).2 else if dnum k.lk = 5 then (listP v).2 else if v = [] then 3 else 0 from rfl)
    rw [fits_some hf]
    generalize fitsK k v = R at *
    generalize numeP v (dnum k.ll : Int) (dnum k.lh : Int) = N at *
    obtain ⟨n, nk⟩ := N
    generalize listP v = L at *
    obtain ⟨ls, lk⟩ := L
    simp only at cn cl HR
    generalize dnum k.lk = K at *
    generalize dnum k.ll = K1 at *
    generalize dnum k.lh = K2 at *
    generalize k.name = kn at *
    generalize k.dv = kd at *
    generalize (k.no == [78]) = kb1 at *
    generalize (k.lo == [76]) = kb2 at *
    clear hf hk
    go_enter Tryz.func32, Tryz.ntmps32
    go_wp2_with fail
    refine C1.out.mono ?_
    rintro e w1 ⟨rfl, hb1⟩
    clear C1
    have hsz := hb1.size
    have hb2 := hb1.alloc hsz (.cells #[.string (bs kn), .int .i64 (K : Int), .int .i64 (K1 : Int), .int .i64 (K2 : Int), .string (bs kd), .bool kb1, .bool kb2] 125)
    have hy : (⟨#[89, 101, 115]⟩ : ByteArray) = bs yesL := rfl
    have hn : (⟨#[78, 111]⟩ : ByteArray) = bs noL := rfl
    have he : (⟨#[]⟩ : ByteArray) = bs [] := rfl
    rcases hk7 with rfl | rfl | rfl | rfl | rfl | rfl | rfl
    · simp only [true_or, if_true] at HR
      by_cases h1 : v = yesL
      · have hR : R = 0 := by rw [HR.out, if_pos (.inl h1)]
        clear HR
        subst h1
        go_wp2
        go_ret
        exact ⟨by rw [hR]; rfl, hb2⟩
      · by_cases h2 : v = noL
        · have hR : R = 0 := by rw [HR.out, if_pos (.inr h2)]
          clear HR
          subst h2
          go_wp2
          go_ret
          exact ⟨by rw [hR]; rfl, hb2⟩
        · have hR : R = 3 := by rw [HR.out, if_neg (by rintro (h | h) <;> contradiction)]
          clear HR
          have n1 : (v == yesL) = false := by simpa using h1
          have n2 : (v == noL) = false := by simpa using h2
          go_wp2
          go_ret
          exact ⟨by rw [hR]; rfl, hb2⟩
    · simp only [or_true, if_true] at HR
      by_cases h1 : v = yesL
      · have hR : R = 0 := by rw [HR.out, if_pos (.inl h1)]
        clear HR
        subst h1
        go_wp2
        go_ret
        exact ⟨by rw [hR]; rfl, hb2⟩
      · by_cases h2 : v = noL
        · have hR : R = 0 := by rw [HR.out, if_pos (.inr h2)]
          clear HR
          subst h2
          go_wp2
          go_ret
          exact ⟨by rw [hR]; rfl, hb2⟩
        · have hR : R = 3 := by rw [HR.out, if_neg (by rintro (h | h) <;> contradiction)]
          clear HR
          have n1 : (v == yesL) = false := by simpa using h1
          have n2 : (v == noL) = false := by simpa using h2
          go_wp2
          go_ret
          exact ⟨by rw [hR]; rfl, hb2⟩
    · have hR : R = nk := by rw [HR.out]; rfl
      clear HR
      go_wp2_with fail
      refine (cn _ hb2).out.mono ?_
      rintro e w3 ⟨rfl, hb3⟩
      go_wp2
      go_ret
      exact ⟨by rw [hR]; rfl, hb2.trans (hb3.mono hb2.size)⟩
    · have hR : R = nk := by rw [HR.out]; rfl
      clear HR
      go_wp2_with fail
      refine (cn _ hb2).out.mono ?_
      rintro e w3 ⟨rfl, hb3⟩
      go_wp2
      go_ret
      exact ⟨by rw [hR]; rfl, hb2.trans (hb3.mono hb2.size)⟩
    · have hR : R = lk := by rw [HR.out]; rfl
      clear HR
      go_wp2_with fail
      refine (cl _).out.mono ?_
      rintro e w3 ⟨v3, rfl, -, hb3⟩
      go_wp2
      go_ret
      exact ⟨by rw [hR]; rfl, hb2.trans (hb3.mono hb2.size)⟩
    · by_cases h1 : v = []
      · have hR : R = 3 := by rw [HR.out]; simp [h1]
        clear HR
        subst h1
        go_wp2
        go_ret
        exact ⟨by rw [hR]; rfl, hb2⟩
      · have hR : R = 0 := by rw [HR.out]; simp [h1]
        clear HR
        have n1 : (v == []) = false := by simpa using h1
        go_wp2
        go_ret
        exact ⟨by rw [hR]; rfl, hb2⟩
    · have hR : R = nk := by rw [HR.out]; rfl
      clear HR
      go_wp2_with fail
      refine (cn _ hb2).out.mono ?_
      rintro e w3 ⟨rfl, hb3⟩
      go_wp2
      go_ret
      exact ⟨by rw [hR]; rfl, hb2.trans (hb3.mono hb2.size)⟩
set_option maxHeartbeats 4000000 in
theorem rfits_any : Calls Tryz.prog 28 #[.string (bs name), .string (bs v)] w fun e w' => e = .returned (.int .i64 (fitsP name v : Nat)) ∧ Below w.heap.size w w' := by
  have c1 := keyOf_any name w
  cases hf : findK keyRows name with
  | none =>
    rw [hf] at c1
    simp only [keyVal, keyErr] at c1
    rw [fits_none hf]
    have C1 := hid c1; clear c1
    go_enter Tryz.func28, Tryz.ntmps28
    go_wp2_with fail
    refine C1.out.mono ?_
    rintro e w1 ⟨rfl, hb1⟩
    go_wp2
    go_ret
    exact ⟨rfl, hb1.alloc hb1.size _⟩
  | some k =>
    have hk : k ∈ keyRows := List.mem_of_find?_eq_some hf
    obtain ⟨-, -, -, -, -, -, -, -, -, -, hl1, hl2, hl3⟩ := key_fine k hk
    rw [hf] at c1
    simp only [keyVal, keyErr, KR.cells] at c1
    have cn := fun w1 => hid (rnumerals_any v (dnum k.ll : Int) (dnum k.lh : Int) w1 (by omega) (by omega) (by omega) (by omega) (by omega))
    have cl := fun w1 => hid (rlist_any v w1 (by omega))
    unfold ListRPost at cl
    have C1 := hid c1; clear c1
    have hk7 := kinds_seven k hk
    have HR := hid (show fitsK k v = if dnum k.lk = 1 ∨ dnum k.lk = 2 then (if v = yesL ∨ v = noL then 0 else 3) else if dnum k.lk = 3 ∨ dnum k.lk = 4 ∨ dnum k.lk = 7 then (numeP v (dnum k.ll) (dnum k.lh)).2 else if dnum k.lk = 5 then (listP v).2 else if v = [] then 3 else 0 from rfl)
    rw [fits_some hf]
    generalize fitsK k v = R at *
    generalize numeP v (dnum k.ll : Int) (dnum k.lh : Int) = N at *
    obtain ⟨n, nk⟩ := N
    generalize listP v = L at *
    obtain ⟨ls, lk⟩ := L
    simp only at cn cl HR
    generalize dnum k.lk = K at *
    generalize dnum k.ll = K1 at *
    generalize dnum k.lh = K2 at *
    generalize k.name = kn at *
    generalize k.dv = kd at *
    generalize (k.no == [78]) = kb1 at *
    generalize (k.lo == [76]) = kb2 at *
    clear hf hk
    go_enter Tryz.func28, Tryz.ntmps28
    go_wp2_with fail
    refine C1.out.mono ?_
    rintro e w1 ⟨rfl, hb1⟩
    clear C1
    have hsz := hb1.size
    have hb2 := hb1.alloc hsz (.cells #[.string (bs kn), .int .i64 (K : Int), .int .i64 (K1 : Int), .int .i64 (K2 : Int), .string (bs kd), .bool kb1, .bool kb2] 125)
    have hy : (⟨#[89, 101, 115]⟩ : ByteArray) = bs yesL := rfl
    have hn : (⟨#[78, 111]⟩ : ByteArray) = bs noL := rfl
    have he : (⟨#[]⟩ : ByteArray) = bs [] := rfl
    rcases hk7 with rfl | rfl | rfl | rfl | rfl | rfl | rfl
    · simp only [true_or, if_true] at HR
      by_cases h1 : v = yesL
      · have hR : R = 0 := by rw [HR.out, if_pos (.inl h1)]
        clear HR
        subst h1
        go_wp2
        go_ret
        exact ⟨by rw [hR]; rfl, hb2⟩
      · by_cases h2 : v = noL
        · have hR : R = 0 := by rw [HR.out, if_pos (.inr h2)]
          clear HR
          subst h2
          go_wp2
          go_ret
          exact ⟨by rw [hR]; rfl, hb2⟩
        · have hR : R = 3 := by rw [HR.out, if_neg (by rintro (h | h) <;> contradiction)]
          clear HR
          have n1 : (v == yesL) = false := by simpa using h1
          have n2 : (v == noL) = false := by simpa using h2
          go_wp2
          go_ret
          exact ⟨by rw [hR]; rfl, hb2⟩
    · simp only [or_true, if_true] at HR
      by_cases h1 : v = yesL
      · have hR : R = 0 := by rw [HR.out, if_pos (.inl h1)]
        clear HR
        subst h1
        go_wp2
        go_ret
        exact ⟨by rw [hR]; rfl, hb2⟩
      · by_cases h2 : v = noL
        · have hR : R = 0 := by rw [HR.out, if_pos (.inr h2)]
          clear HR
          subst h2
          go_wp2
          go_ret
          exact ⟨by rw [hR]; rfl, hb2⟩
        · have hR : R = 3 := by rw [HR.out, if_neg (by rintro (h | h) <;> contradiction)]
          clear HR
          have n1 : (v == yesL) = false := by simpa using h1
          have n2 : (v == noL) = false := by simpa using h2
          go_wp2
          go_ret
          exact ⟨by rw [hR]; rfl, hb2⟩
    · have hR : R = nk := by rw [HR.out]; rfl
      clear HR
      go_wp2_with fail
      refine (cn _).out.mono ?_
      rintro e w3 ⟨rfl, hb3⟩
      go_wp2
      go_ret
      exact ⟨by rw [hR]; rfl, hb2.trans (hb3.mono hb2.size)⟩
    · have hR : R = nk := by rw [HR.out]; rfl
      clear HR
      go_wp2_with fail
      refine (cn _).out.mono ?_
      rintro e w3 ⟨rfl, hb3⟩
      go_wp2
      go_ret
      exact ⟨by rw [hR]; rfl, hb2.trans (hb3.mono hb2.size)⟩
    · have hR : R = lk := by rw [HR.out]; rfl
      clear HR
      go_wp2_with fail
      refine (cl _).out.mono ?_
      rintro e w3 ⟨v3, rfl, -, hb3⟩
      go_wp2
      go_ret
      exact ⟨by rw [hR]; rfl, hb2.trans (hb3.mono hb2.size)⟩
    · by_cases h1 : v = []
      · have hR : R = 3 := by rw [HR.out]; simp [h1]
        clear HR
        subst h1
        go_wp2
        go_ret
        exact ⟨by rw [hR]; rfl, hb2⟩
      · have hR : R = 0 := by rw [HR.out]; simp [h1]
        clear HR
        have n1 : (v == []) = false := by simpa using h1
        go_wp2
        go_ret
        exact ⟨by rw [hR]; rfl, hb2⟩
    · have hR : R = nk := by rw [HR.out]; rfl
      clear HR
      go_wp2_with fail
      refine (cn _).out.mono ?_
      rintro e w3 ⟨rfl, hb3⟩
      go_wp2
      go_ret
      exact ⟨by rw [hR]; rfl, hb2.trans (hb3.mono hb2.size)⟩
end
end Go.Proofs.YtbimlijhgeajjaaGreatDoor
