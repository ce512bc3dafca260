/- The document's table of MD5. -/
import Derived.Test.YtejbigoacknfoaaGreatDoorProg
import Derived.Test.YtejbigoacknfoaaGreatDoorPUint
import Derived.Test.YtejbigoacknfoaaGreatDoorMd5Pure
set_option linter.unusedSectionVars false
set_option linter.unusedSimpArgs false
set_option linter.unusedVariables false
namespace Go.Proofs.YtejbigoacknfoaaGreatDoor
open Go Go.RowKit
set_option linter.unusedVariables false
set_option linter.unusedSectionVars false
set_option linter.unusedSimpArgs false
set_option maxRecDepth 100000
def hexD (n : Nat) : UInt8 := if n < 10 then UInt8.ofNat (48 + n) else UInt8.ofNat (87 + n)
def hex8 (n : Nat) : List UInt8 := [hexD (n / 268435456 % 16), hexD (n / 16777216 % 16), hexD (n / 1048576 % 16), hexD (n / 65536 % 16), hexD (n / 4096 % 16), hexD (n / 256 % 16), hexD (n / 16 % 16), hexD (n % 16)]
def allS : List UInt8 := QMd.sines.flatMap hex8
theorem allS_at (i : Nat) (h : i < 64) : ((allS.take (8 * i + 8)).drop (8 * i)) = hex8 (QMd.sineN i) ∧ puS 16 4294967295 (hex8 (QMd.sineN i)) = (QMd.sineN i, 0) := by
  have : ∀ j : Fin 64, ((allS.take (8 * j.val + 8)).drop (8 * j.val)) = hex8 (QMd.sineN j.val) ∧ puS 16 4294967295 (hex8 (QMd.sineN j.val)) = (QMd.sineN j.val, 0) := by decide +kernel
  exact this ⟨i, h⟩
theorem allS_len : allS.length = 512 := by decide +kernel
theorem spu_ok (l : List UInt8) (x : Nat) (w : World) (hl : l.length ≤ 9223372036854775806) (h : puS 16 4294967295 l = (x, 0)) :
    Calls Tryz.prog 158 #[.string (bs l), .int .i64 16, .int .i64 32] w fun e w' => e = .returned (.tuple #[.int .u64 (x : Nat), .nilIface]) ∧ Below w.heap.size w w' := by
  have c := hid (pu_16_32 l w hl)
  rw [h] at c
  unfold PuPost at c
  rw [errV_zero] at c
  go_enter Tryz.func158, Tryz.ntmps158
  go_wp2_with fail
  refine c.out.mono ?_
  rintro e w1 ⟨rfl, hb1⟩
  go_wp2
  go_ret2
  exact ⟨rfl, hb1⟩
theorem calls_str1 {P : Program} {f : FuncId} {X Y : ByteArray} {a b : Value} {w : World} {Q : Ending → World → Prop} (h : X = Y) (hc : Calls P f #[.string Y, a, b] w Q) : Calls P f #[.string X, a, b] w Q := by rw [h]; exact hc
theorem sine_any (i : Nat) (h : i < 64) (w : World) : Calls Tryz.prog 114 #[.int .i64 (i : Int)] w fun e w' => e = .returned (.int .u32 (QMd.sineN i : Nat)) ∧ Below w.heap.size w w' := by
  obtain ⟨h1, h2⟩ := allS_at i h
  have hlt := QMd.sine_lt i
  have hal := allS_len
  have c := fun w => hid (spu_ok (hex8 (QMd.sineN i)) (QMd.sineN i) w (by simp [hex8]) h2)
  go_enter Tryz.func114, Tryz.ntmps114
  go_wp2_with fail
  refine calls_str1 (Y := bs (hex8 (QMd.sineN i))) ?_ ((c _).out.mono ?_)
  · refine Eq.trans (b := (bs allS).extract (8 * i) (8 * i + 8)) ?_ (by rw [bs_extract, h1])
    exact congrArg (fun z : ByteArray => z.extract (8 * i) (8 * i + 8)) (show _ = bs allS by kernel_rfl)
  rintro e w1 ⟨rfl, hb1⟩
  go_wp2
  go_ret
  exact ⟨rfl, hb1⟩
end Go.Proofs.YtejbigoacknfoaaGreatDoor
