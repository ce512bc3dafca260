/- Whether a value may be one of a key: by the program and by the document. -/
import Derived.Test.YtfeenkofnbefaaaGreatDoorResPure
import Derived.Test.YtfeenkofnbefaaaGreatDoorKeyOf
import Derived.Test.YtfeenkofnbefaaaGreatDoorFields
import Derived.Test.YtfeenkofnbefaaaGreatDoorSeen
import Derived.Test.YtfeenkofnbefaaaGreatDoorLists
set_option linter.unusedSectionVars false
set_option linter.unusedSimpArgs false
set_option linter.unusedVariables false
namespace Go.Proofs.YtfeenkofnbefaaaGreatDoor
open Go Go.RowKit
set_option linter.unusedVariables false
set_option linter.unusedSectionVars false
set_option linter.unusedSimpArgs false
set_option maxRecDepth 100000
theorem kinds_seven : ∀ k ∈ keyRows, dnum k.lk = 1 ∨ dnum k.lk = 2 ∨ dnum k.lk = 3 ∨ dnum k.lk = 4 ∨ dnum k.lk = 5 ∨ dnum k.lk = 6 ∨ dnum k.lk = 7 := by decide +kernel
theorem fits_none {name v : List UInt8} (h : findK keyRows name = none) : fitsP name v = 5 := by unfold fitsP; rw [h]
theorem fits_some {name v : List UInt8} {k : KR} (h : findK keyRows name = some k) : fitsP name v = fitsK k v := by unfold fitsP; rw [h]
section
variable (name v : List UInt8) (w : World) (hv : v.length ≤ 100000)
include hv
set_option maxHeartbeats 4000000 in
theorem fits_any (hT : AS w) (hev : EV w) : Calls Tryz.prog 63 #[.string (bs name), .string (bs v)] w fun e w' => e = .returned (errV 31 (fitsP name v)) ∧ Below w.heap.size w w' := by
  have c1 := of_any name w hT
  unfold OfPost at c1
  cases hf : findK keyRows name with
  | none =>
    rw [hf] at c1
    simp only [keyVal, keyErr] at c1
    rw [errV_pos _ _ (by omega)] at c1
    rw [fits_none hf, errV_pos _ _ (by omega)]
    have C1 := hid c1; clear c1 hT hev
    go_enter Tryz.func63, Tryz.ntmps63
    go_wp2_with fail
    refine C1.out.mono ?_
    rintro e w1 ⟨rfl, hb1⟩
    go_wp2
    go_ret
    exact ⟨rfl, hb1.alloc hb1.size _⟩
  | some k =>
    have hk : k ∈ keyRows := List.mem_of_find?_eq_some hf
    obtain ⟨-, -, -, -, -, -, -, -, -, -, hl1, hl2, hl3⟩ := key_fine k hk
    rw [hf] at c1
    simp only [keyVal, keyErr, KR.cells] at c1
    rw [errV_zero] at c1
    have cn := fun w1 (hb : Below w.heap.size w w1) => hid (knumeral_any v (dnum k.ll : Int) (dnum k.lh : Int) w1 (by omega) (by omega) (by omega) (by omega) (by omega) (hev.below hb))
    have cl := fun w1 => hid (list_any v w1 hv)
    unfold ListPost at cl
    have C1 := hid c1; clear c1 hT hev
    have hk7 := kinds_seven k hk
    have HR := hid (show fitsK k v = if dnum k.lk = 1 ∨ dnum k.lk = 2 then (if v = yesL ∨ v = noL then 0 else 3) else if dnum k.lk = 3 ∨ dnum k.lk = 4 ∨ dnum k.lk = 7 then (numeP v (dnum k.ll) (dnum k.lh)).2 else if dnum k.lk = 5 then (listP v).2 else if v = [] then 3 else 0 from rfl)
    rw [fits_some hf]
    generalize fitsK k v = R at *
    generalize numeP v (dnum k.ll : Int) (dnum k.lh : Int) = N at *
    obtain ⟨n, nk⟩ := N
    generalize listP v = L at *
    obtain ⟨ls, lk⟩ := L
    simp only at cn cl HR
    generalize dnum k.lk = K at *
    generalize dnum k.ll = K1 at *
    generalize dnum k.lh = K2 at *
    generalize k.name = kn at *
    generalize k.dv = kd at *
    generalize (k.no == [78]) = kb1 at *
    generalize (k.lo == [76]) = kb2 at *
    clear hf hk
    go_enter Tryz.func63, Tryz.ntmps63
    go_wp2_with fail
    refine C1.out.mono ?_
    rintro e w1 ⟨rfl, hb1⟩
    clear C1
    have hsz := hb1.size
    have hb2 := hb1.alloc hsz (.cells #[.string (bs kn), .int .i64 (K : Int), .int .i64 (K1 : Int), .int .i64 (K2 : Int), .string (bs kd), .bool kb1, .bool kb2] 161)
    have hy : (⟨#[89, 101, 115]⟩ : ByteArray) = bs yesL := rfl
    have hn : (⟨#[78, 111]⟩ : ByteArray) = bs noL := rfl
    have he : (⟨#[]⟩ : ByteArray) = bs [] := rfl
    rcases hk7 with rfl | rfl | rfl | rfl | rfl | rfl | rfl
    · simp only [true_or, if_true] at HR
      by_cases h1 : v = yesL
      · have hR : R = 0 := by rw [HR.out, if_pos (.inl h1)]
        clear HR
        subst h1
        go_wp2
        go_ret
        exact ⟨by rw [hR]; rfl, hb2⟩
      · by_cases h2 : v = noL
        · have hR : R = 0 := by rw [HR.out, if_pos (.inr h2)]
          clear HR
          subst h2
          go_wp2
          go_ret
          exact ⟨by rw [hR]; rfl, hb2⟩
        · have hR : R = 3 := by rw [HR.out, if_neg (by rintro (h | h) <;> contradiction)]
          clear HR
          have n1 : (v == yesL) = false := by simpa using h1
          have n2 : (v == noL) = false := by simpa using h2
          go_wp2
          go_ret
          exact ⟨by rw [hR]; rfl, hb2⟩
    · simp only [or_true, if_true] at HR
      by_cases h1 : v = yesL
      · have hR : R = 0 := by rw [HR.out, if_pos (.inl h1)]
        clear HR
        subst h1
        go_wp2
        go_ret
        exact ⟨by rw [hR]; rfl, hb2⟩
      · by_cases h2 : v = noL
        · have hR : R = 0 := by rw [HR.out, if_pos (.inr h2)]
          clear HR
          subst h2
          go_wp2
          go_ret
          exact ⟨by rw [hR]; rfl, hb2⟩
        · have hR : R = 3 := by rw [HR.out, if_neg (by rintro (h | h) <;> contradiction)]
          clear HR
          have n1 : (v == yesL) = false := by simpa using h1
          have n2 : (v == noL) = false := by simpa using h2
          go_wp2
          go_ret
          exact ⟨by rw [hR]; rfl, hb2⟩
    · have hR : R = nk := by rw [HR.out]; rfl
      clear HR
      go_wp2_with fail
      refine (cn _ hb2).out.mono ?_
      rintro e w3 ⟨rfl, hb3⟩
      go_wp2
      go_ret
      exact ⟨by rw [hR]; rfl, hb2.trans (hb3.mono hb2.size)⟩
    · have hR : R = nk := by rw [HR.out]; rfl
      clear HR
      go_wp2_with fail
      refine (cn _ hb2).out.mono ?_
      rintro e w3 ⟨rfl, hb3⟩
      go_wp2
      go_ret
      exact ⟨by rw [hR]; rfl, hb2.trans (hb3.mono hb2.size)⟩
    · have hR : R = lk := by rw [HR.out]; rfl
      clear HR
      go_wp2_with fail
      refine (cl _).out.mono ?_
      rintro e w3 ⟨v3, rfl, -, hb3⟩
      go_wp2
      go_ret
      exact ⟨by rw [hR]; rfl, hb2.trans (hb3.mono hb2.size)⟩
    · by_cases h1 : v = []
      · have hR : R = 3 := by rw [HR.out]; simp [h1]
        clear HR
        subst h1
        go_wp2
        go_ret
        exact ⟨by rw [hR]; rfl, hb2⟩
      · have hR : R = 0 := by rw [HR.out]; simp [h1]
        clear HR
        have n1 : (v == []) = false := by simpa using h1
        go_wp2
        go_ret
        exact ⟨by rw [hR]; rfl, hb2⟩
    · have hR : R = nk := by rw [HR.out]; rfl
      clear HR
      go_wp2_with fail
      refine (cn _ hb2).out.mono ?_
      rintro e w3 ⟨rfl, hb3⟩
      go_wp2
      go_ret
      exact ⟨by rw [hR]; rfl, hb2.trans (hb3.mono hb2.size)⟩
set_option maxHeartbeats 4000000 in
theorem rfits_any : Calls Tryz.prog 59 #[.string (bs name), .string (bs v)] w fun e w' => e = .returned (.int .i64 (fitsP name v : Nat)) ∧ Below w.heap.size w w' := by
  have c1 := keyOf_any name w
  cases hf : findK keyRows name with
  | none =>
    rw [hf] at c1
    simp only [keyVal, keyErr] at c1
    rw [fits_none hf]
    have C1 := hid c1; clear c1
    go_enter Tryz.func59, Tryz.ntmps59
    go_wp2_with fail
    refine C1.out.mono ?_
    rintro e w1 ⟨rfl, hb1⟩
    go_wp2
    go_ret
    exact ⟨rfl, hb1.alloc hb1.size _⟩
  | some k =>
    have hk : k ∈ keyRows := List.mem_of_find?_eq_some hf
    obtain ⟨-, -, -, -, -, -, -, -, -, -, hl1, hl2, hl3⟩ := key_fine k hk
    rw [hf] at c1
    simp only [keyVal, keyErr, KR.cells] at c1
    have cn := fun w1 => hid (rnumerals_any v (dnum k.ll : Int) (dnum k.lh : Int) w1 (by omega) (by omega) (by omega) (by omega) (by omega))
    have cl := fun w1 => hid (rlist_any v w1 (by omega))
    unfold ListRPost at cl
    have C1 := hid c1; clear c1
    have hk7 := kinds_seven k hk
    have HR := hid (show fitsK k v = if dnum k.lk = 1 ∨ dnum k.lk = 2 then (if v = yesL ∨ v = noL then 0 else 3) else if dnum k.lk = 3 ∨ dnum k.lk = 4 ∨ dnum k.lk = 7 then (numeP v (dnum k.ll) (dnum k.lh)).2 else if dnum k.lk = 5 then (listP v).2 else if v = [] then 3 else 0 from rfl)
    rw [fits_some hf]
    generalize fitsK k v = R at *
    generalize numeP v (dnum k.ll : Int) (dnum k.lh : Int) = N at *
    obtain ⟨n, nk⟩ := N
    generalize listP v = L at *
    obtain ⟨ls, lk⟩ := L
    simp only at cn cl HR
    generalize dnum k.lk = K at *
    generalize dnum k.ll = K1 at *
    generalize dnum k.lh = K2 at *
    generalize k.name = kn at *
    generalize k.dv = kd at *
    generalize (k.no == [78]) = kb1 at *
    generalize (k.lo == [76]) = kb2 at *
    clear hf hk
    go_enter Tryz.func59, Tryz.ntmps59
    go_wp2_with fail
    refine C1.out.mono ?_
    rintro e w1 ⟨rfl, hb1⟩
    clear C1
    have hsz := hb1.size
    have hb2 := hb1.alloc hsz (.cells #[.string (bs kn), .int .i64 (K : Int), .int .i64 (K1 : Int), .int .i64 (K2 : Int), .string (bs kd), .bool kb1, .bool kb2] 161)
    have hy : (⟨#[89, 101, 115]⟩ : ByteArray) = bs yesL := rfl
    have hn : (⟨#[78, 111]⟩ : ByteArray) = bs noL := rfl
    have he : (⟨#[]⟩ : ByteArray) = bs [] := rfl
    rcases hk7 with rfl | rfl | rfl | rfl | rfl | rfl | rfl
    · simp only [true_or, if_true] at HR
      by_cases h1 : v = yesL
      · have hR : R = 0 := by rw [HR.out, if_pos (.inl h1)]
        clear HR
        subst h1
        go_wp2
        go_ret
        exact ⟨by rw [hR]; rfl, hb2⟩
      · by_cases h2 : v = noL
        · have hR : R = 0 := by rw [HR.out, if_pos (.inr h2)]
          clear HR
          subst h2
          go_wp2
          go_ret
          exact ⟨by rw [hR]; rfl, hb2⟩
        · have hR : R = 3 := by rw [HR.out, if_neg (by rintro (h | h) <;> contradiction)]
          clear HR
          have n1 : (v == yesL) = false := by simpa using h1
          have n2 : (v == noL) = false := by simpa using h2
          go_wp2
          go_ret
          exact ⟨by rw [hR]; rfl, hb2⟩
    · simp only [or_true, if_true] at HR
      by_cases h1 : v = yesL
      · have hR : R = 0 := by rw [HR.out, if_pos (.inl h1)]
        clear HR
        subst h1
        go_wp2
        go_ret
        exact ⟨by rw [hR]; rfl, hb2⟩
      · by_cases h2 : v = noL
        · have hR : R = 0 := by rw [HR.out, if_pos (.inr h2)]
          clear HR
          subst h2
          go_wp2
          go_ret
          exact ⟨by rw [hR]; rfl, hb2⟩
        · have hR : R = 3 := by rw [HR.out, if_neg (by rintro (h | h) <;> contradiction)]
          clear HR
          have n1 : (v == yesL) = false := by simpa using h1
          have n2 : (v == noL) = false := by simpa using h2
          go_wp2
          go_ret
          exact ⟨by rw [hR]; rfl, hb2⟩
    · have hR : R = nk := by rw [HR.out]; rfl
      clear HR
      go_wp2_with fail
      refine (cn _).out.mono ?_
      rintro e w3 ⟨rfl, hb3⟩
      go_wp2
      go_ret
      exact ⟨by rw [hR]; rfl, hb2.trans (hb3.mono hb2.size)⟩
    · have hR : R = nk := by rw [HR.out]; rfl
      clear HR
      go_wp2_with fail
      refine (cn _).out.mono ?_
      rintro e w3 ⟨rfl, hb3⟩
      go_wp2
      go_ret
      exact ⟨by rw [hR]; rfl, hb2.trans (hb3.mono hb2.size)⟩
    · have hR : R = lk := by rw [HR.out]; rfl
      clear HR
      go_wp2_with fail
      refine (cl _).out.mono ?_
      rintro e w3 ⟨v3, rfl, -, hb3⟩
      go_wp2
      go_ret
      exact ⟨by rw [hR]; rfl, hb2.trans (hb3.mono hb2.size)⟩
    · by_cases h1 : v = []
      · have hR : R = 3 := by rw [HR.out]; simp [h1]
        clear HR
        subst h1
        go_wp2
        go_ret
        exact ⟨by rw [hR]; rfl, hb2⟩
      · have hR : R = 0 := by rw [HR.out]; simp [h1]
        clear HR
        have n1 : (v == []) = false := by simpa using h1
        go_wp2
        go_ret
        exact ⟨by rw [hR]; rfl, hb2⟩
    · have hR : R = nk := by rw [HR.out]; rfl
      clear HR
      go_wp2_with fail
      refine (cn _).out.mono ?_
      rintro e w3 ⟨rfl, hb3⟩
      go_wp2
      go_ret
      exact ⟨by rw [hR]; rfl, hb2.trans (hb3.mono hb2.size)⟩
end
end Go.Proofs.YtfeenkofnbefaaaGreatDoor
