/- A response, by the program and by the document. -/
import Derived.Test.YtejbigoacknfoaaGreatDoorMd5B
import Derived.Test.YtejbigoacknfoaaGreatDoorMd5R
import Derived.Test.YtejbigoacknfoaaGreatDoorWithin
import Derived.Test.YtejbigoacknfoaaGreatDoorTell
import Derived.Test.YtejbigoacknfoaaGreatDoorPairIn
set_option linter.unusedSectionVars false
set_option linter.unusedSimpArgs false
set_option linter.unusedVariables false
namespace Go.Proofs.YtejbigoacknfoaaGreatDoor
open Go Go.RowKit
set_option linter.unusedVariables false
set_option linter.unusedSectionVars false
set_option linter.unusedSimpArgs false
set_option maxRecDepth 100000
/-- a response, or what is wrong -/
def respP (id : Int) (sec ch : List UInt8) : List UInt8 × Nat :=
  if id < 0 ∨ 255 < id then ([], 2) else if 100 < sec.length ∨ ch.length = 0 ∨ 100 < ch.length then ([], 4) else (QMd.md5L (byteOf id :: (sec ++ ch)), 0)
theorem resp_any (id : Int) (sec ch : List UInt8) (w : World) (hs : sec.length ≤ 140737488355328) (hc : ch.length ≤ 140737488355328) :
    Calls Tryz.prog 18 #[.int .i64 id, .string (bs sec), .string (bs ch)] w fun e w' => e = .returned (.tuple #[.string (bs (respP id sec ch).1), errV 22 (respP id sec ch).2]) ∧ Below w.heap.size w w' := by
  by_cases h1 : id < 0 ∨ 255 < id
  · have HE := hid (show respP id sec ch = ([], 2) from if_pos h1)
    rw [HE.out]
    rcases h1 with h | h
    · clear hs hc
      go_enter Tryz.func18, Tryz.ntmps18
      go_wp2
      go_ret2
      exact ⟨rfl, Below.refl _ _⟩
    · have h0 : ¬ id < 0 := by omega
      go_enter Tryz.func18, Tryz.ntmps18
      go_wp2
      go_ret2
      exact ⟨rfl, Below.refl _ _⟩
  · have i0 : ¬ id < 0 := by omega
    have i1 : ¬ 255 < id := by omega
    have hem : (ch == []) = decide (ch.length = 0) := by cases ch <;> simp
    by_cases h2 : 100 < sec.length ∨ ch.length = 0 ∨ 100 < ch.length
    · have HE := hid (show respP id sec ch = ([], 4) by unfold respP; rw [if_neg h1, if_pos h2])
      rw [HE.out]
      clear h1
      by_cases h3 : 100 < sec.length
      · have h3i : (100 : Int) < (sec.length : Int) := by omega
        go_enter Tryz.func18, Tryz.ntmps18
        go_wp2
        go_ret2
        exact ⟨rfl, Below.refl _ _⟩
      · have h3i : ¬ (100 : Int) < (sec.length : Int) := by omega
        by_cases h4 : ch.length = 0
        · have hem' : (ch == []) = true := by rw [hem, decide_eq_true h4]
          clear hem h4 h2
          go_enter Tryz.func18, Tryz.ntmps18
          go_wp2
          go_ret2
          exact ⟨rfl, Below.refl _ _⟩
        · have hem' : (ch == []) = false := by rw [hem, decide_eq_false h4]
          have h5i : (100 : Int) < (ch.length : Int) := by omega
          clear hem h4 h2
          go_enter Tryz.func18, Tryz.ntmps18
          go_wp2
          go_ret2
          exact ⟨rfl, Below.refl _ _⟩
    · have HE := hid (show respP id sec ch = (QMd.md5L (byteOf id :: (sec ++ ch)), 0) by unfold respP; rw [if_neg h1, if_neg h2])
      rw [HE.out]
      have h3i : ¬ (100 : Int) < (sec.length : Int) := by omega
      have h5i : ¬ (100 : Int) < (ch.length : Int) := by omega
      have hem' : (ch == []) = false := by rw [hem, decide_eq_false (by omega)]
      have hw : IntKind.u8.wrap id = id := by rw [IntKind.wrap_u8]; omega
      have hl1 : sec.length ≤ 100 := by omega
      have hl2 : ch.length ≤ 100 := by omega
      have cm := fun w => hid (md5_any (byteOf id :: (sec ++ ch)) w (by simp; omega))
      have cv1 := conv1 (P := Tryz.prog) 120 9 5 5 Tryz.underlying120 Tryz.underlying5 Tryz.underlying9
      have HC := hid (show bs [byteOf id] ++ bs sec ++ bs ch = bs (byteOf id :: (sec ++ ch)) by rw [bs_append, bs_append]; simp)
      generalize QMd.md5L (byteOf id :: (sec ++ ch)) = R at *
      clear h1 h2 hem
      have hA := (Below.refl w.heap.size w).alloc (Nat.le_refl _) (.cells #[.int .u8 id] 5)
      go_enter Tryz.func18, Tryz.ntmps18
      go_wp2_with fail
      refine (cm _).out.mono ?_
      rintro e w1 ⟨rfl, hb1⟩
      go_wp2
      go_ret2
      exact ⟨rfl, hA.trans (hb1.mono hA.size)⟩
theorem rresp_any (id : Int) (sec ch : List UInt8) (w : World) (hs : sec.length ≤ 140737488355328) (hc : ch.length ≤ 140737488355328) :
    Calls Tryz.prog 17 #[.int .i64 id, .string (bs sec), .string (bs ch)] w fun e w' => e = .returned (.tuple #[.string (bs (respP id sec ch).1), .int .i64 ((respP id sec ch).2 : Nat)]) ∧ Below w.heap.size w w' := by
  by_cases h1 : id < 0 ∨ 255 < id
  · have HE := hid (show respP id sec ch = ([], 2) from if_pos h1)
    rw [HE.out]
    have cw := fun w => hid (within_false id 0 255 w (by omega))
    clear h1
    go_enter Tryz.func17, Tryz.ntmps17
    go_wp2_with fail
    refine (cw _).out.mono ?_
    rintro e w1 ⟨rfl, hw1⟩
    subst hw1
    go_wp2
    go_ret2
    exact ⟨rfl, Below.refl _ _⟩
  · have cw := fun w => hid (within_true id 0 255 w (by omega) (by omega))
    by_cases h2 : 100 < sec.length ∨ ch.length = 0 ∨ 100 < ch.length
    · have HE := hid (show respP id sec ch = ([], 4) by unfold respP; rw [if_neg h1, if_pos h2])
      rw [HE.out]
      by_cases h3 : 100 < sec.length
      · have h3i : (100 : Int) < (sec.length : Int) := by omega
        clear h1 h2
        go_enter Tryz.func17, Tryz.ntmps17
        go_wp2_with fail
        refine (cw _).out.mono ?_
        rintro e w1 ⟨rfl, hw1⟩
        subst hw1
        go_wp2
        go_ret2
        exact ⟨rfl, Below.refl _ _⟩
      · have h3i : ¬ (100 : Int) < (sec.length : Int) := by omega
        have cw2 := fun w => hid (within_false (ch.length : Int) 1 100 w (by omega))
        clear h1 h2
        go_enter Tryz.func17, Tryz.ntmps17
        go_wp2_with fail
        refine (cw _).out.mono ?_
        rintro e w1 ⟨rfl, hw1⟩
        subst hw1
        go_wp2_with fail
        refine (cw2 _).out.mono ?_
        rintro e w1 ⟨rfl, hw1⟩
        subst hw1
        go_wp2
        go_ret2
        exact ⟨rfl, Below.refl _ _⟩
    · have HE := hid (show respP id sec ch = (QMd.md5L (byteOf id :: (sec ++ ch)), 0) by unfold respP; rw [if_neg h1, if_neg h2])
      rw [HE.out]
      have h3i : ¬ (100 : Int) < (sec.length : Int) := by omega
      have hw : IntKind.u8.wrap id = id := by rw [IntKind.wrap_u8]; omega
      have hl1 : sec.length ≤ 100 := by omega
      have hl2 : ch.length ≤ 100 := by omega
      have cw2 := fun w => hid (within_true (ch.length : Int) 1 100 w (by omega) (by omega))
      have cm := fun w => hid (rmd5_any (byteOf id :: (sec ++ ch)) w (by simp; omega))
      have cv1 := conv1 (P := Tryz.prog) 120 9 5 5 Tryz.underlying120 Tryz.underlying5 Tryz.underlying9
      generalize QMd.md5L (byteOf id :: (sec ++ ch)) = R at *
      clear h1 h2
      have hA := (Below.refl w.heap.size w).alloc (Nat.le_refl _) (.cells #[.int .u8 id] 5)
      go_enter Tryz.func17, Tryz.ntmps17
      go_wp2_with fail
      refine (cw _).out.mono ?_
      rintro e w1 ⟨rfl, hw1⟩
      subst hw1
      go_wp2_with fail
      refine (cw2 _).out.mono ?_
      rintro e w1 ⟨rfl, hw1⟩
      subst hw1
      go_wp2_with fail
      refine (cm _).out.mono ?_
      rintro e w1 ⟨rfl, hb1⟩
      go_wp2
      go_ret2
      exact ⟨rfl, hA.trans (hb1.mono hA.size)⟩
end Go.Proofs.YtejbigoacknfoaaGreatDoor
