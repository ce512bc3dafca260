/- The walk of the law PairsPrints: it returns true. -/
import Derived.Test.YtbbnnhaboegedaaDoorPairPrintR
import Derived.Test.YtbbnnhaboegedaaDoorPairFind
import Derived.Test.YtbbnnhaboegedaaDoorCardBase
import Derived.Deep.RegionHeld3
namespace Go.Proofs.YtbbnnhaboegedaaDoor
open Go.RowKit
set_option linter.unusedVariables false
set_option maxRecDepth 100000
def ErrPost (k : Nat) (pl : Int) (e : Ending) (w' : World) : Prop := ∃ er, e = .returned er ∧ ErrIs w' er k pl
set_option maxHeartbeats 4000000 in
theorem pairsPrints_law (v : Value) (l : PL) (key : List UInt8) (w : World) (h : PSl w v l) (hbd : PBd l) (hkey : key.length ≤ 9223372036854775807) (hg : EType w) :
    Calls Tryd.prog 4 #[v, .string (bs key)] w fun e w' => e = .returned (.bool true) ∧ Below w.heap.size w w' := by
  have hb0 := Below.refl w.heap.size w
  have c0 := hid (thick_any v l w h hbd)
  have c1 := fun w1 (hb : Below w.heap.size w w1) => hid (rpairs_any v l w1 (h.below hb) hbd)
  have c2 := fun w1 (hb : Below w.heap.size w w1) => hid (print_any v l w1 (h.below hb) hbd)
  have c3 := fun w1 (hb : Below w.heap.size w w1) => hid (rfind_any v l key w1 (h.below hb) hbd.1)
  have c4 := fun w1 (hb : Below w.heap.size w w1) => hid (find_any v l key w1 (h.below hb) hbd.1)
  have c6 := fun w1 (hb : Below w.heap.size w w1) => hid (pairsRight_any v l w1 (h.below hb) hbd)
  have c7 := fun w1 (hb : Below w.heap.size w w1) => hid (rpairsRight_any v l w1 (h.below hb) hbd)
  have c8 := fun w1 => hid (key_any key w1 hkey)
  have c9 := fun w1 => hid (rkey_any key w1 hkey)
  have cA := fun w1 => hid (value_any key w1 hkey)
  have cB := fun w1 => hid (rvalue_any key w1 hkey)
  unfold WideP at c0
  unfold PPrintRPost at c1
  unfold PPrintPost at c2
  unfold PFindPost at c3 c4
  unfold PRightPost at c6
  unfold PRightRPost at c7
  unfold faultV at c1 c7
  generalize (if (pairsR l).1 = 0 then pairsB l else []) = X at *
  generalize (pairsR l).1 = k at *
  generalize (pairsR l).2 = pl at *
  generalize (findP l key).1 = fx at *
  generalize (findP l key).2 = fb at *
  generalize isKey key = ik at *
  generalize isValue key = iv at *
  have cp := fun v w1 (hb : Below w.heap.size w w1) hv => hid (placed_ok v k pl w1 (hg.below hb) hv)
  clear hg h hbd hkey
  go_enter Tryd.func4, Tryd.ntmps4
  go_wp2_with fail
  refine c0.out.mono ?_; rintro e w0 ⟨⟨b, rfl⟩, hbw⟩
  cases b with
  | true =>
    go_wp2_with fail
    go_ret
    exact ⟨rfl, hbw⟩
  | false =>
    by_cases h300 : 300 < key.length
    · have h3b : decide ((300 : Int) < (key.length : Int)) = true := decide_eq_true (by omega)
      go_wp2_with fail
      go_ret
      exact ⟨rfl, hbw⟩
    have h3b : decide ((300 : Int) < (key.length : Int)) = false := decide_eq_false (by omega)
    go_wp2_with fail
    refine (c1 _ hbw).out.mono ?_; rintro e w1 ⟨rfl, hb1⟩
    have hb1' := hbw.trans (hb1.mono hbw.size)
    go_wp2_with fail
    have hbA := hb1'.alloc hb1'.size (.cells #[.int .i64 k, .int .i64 pl] 28 (0, 0))
    have hbk := heap_alloc_new w1 (.cells #[.int .i64 k, .int .i64 pl] 28 (0, 0))
    have hsz : w1.heap.size < (w1.alloc (.cells #[.int .i64 k, .int .i64 pl] 28 (0, 0))).heap.size := by simp
    refine (c2 _ hbA).out.mono ?_
    rintro e w2 ⟨⟨er, rfl, her⟩, hb2⟩
    have hbB := hbA.trans (hb2.mono hbA.size)
    go_wp2_with fail
    refine (c3 _ hbB).out.mono ?_; rintro e w3 ⟨rfl, hb3⟩
    have hbC := hbB.trans (hb3.mono hbB.size)
    go_wp2_with fail
    refine (c4 _ hbC).out.mono ?_; rintro e w4 ⟨rfl, hb4⟩
    have hbD := hbC.trans (hb4.mono hbC.size)
    have hb24 := hb3.trans (hb4.mono hb3.size)
    have her4 := her.below hb24
    have hbk4 := (hb24.block w1.heap.size (Nat.lt_of_lt_of_le hsz hb2.size)).trans ((hb2.block w1.heap.size hsz).trans hbk)
    have hc0 : w4.cell? ⟨w1.heap.size, 0, none⟩ = some (.int .i64 k) := by rw [cell_of_row _ _ _ _ _ _ hbk4]; rfl
    have hc1 : w4.cell? ⟨w1.heap.size, 1, none⟩ = some (.int .i64 pl) := by rw [cell_of_row _ _ _ _ _ _ hbk4]; rfl
    have hlt : w1.heap.size < w4.heap.size := Nat.lt_of_lt_of_le hsz (Nat.le_trans hb2.size hb24.size)
    clear hbk hbk4 hsz hbA hb2 hb3 hb4 hbB hbC hb24 hb1 c0 c1 c2 c3 c4 her
    go_wp2_with fail
    refine (cp _ _ hbD (her4)).out.mono ?_; rintro e w5 ⟨rfl, hb5⟩
    have hbE := hbD.trans (hb5.mono hbD.size)
    go_wp2_with fail
    refine (c6 _ hbE).out.mono ?_; rintro e w6 ⟨⟨er2, rfl, her2⟩, hb6⟩
    have hbF := hbE.trans (hb6.mono hbE.size)
    go_wp2_with fail
    refine (c7 _ hbF).out.mono ?_; rintro e w7 ⟨rfl, hb7⟩
    have hbG := hbF.trans (hb7.mono hbF.size)
    go_wp2_with fail
    refine (cp _ _ hbG (her2.below hb7)).out.mono ?_; rintro e w8 ⟨rfl, hb8⟩
    have hbH := hbG.trans (hb8.mono hbG.size)
    go_wp2_with fail
    refine (c8 _).out.mono ?_; rintro e w9 ⟨rfl, rfl⟩
    go_wp2_with fail
    refine (c9 _).out.mono ?_; rintro e wA ⟨rfl, hbA⟩
    have hbI := hbH.trans (hbA.mono hbH.size)
    go_wp2_with fail
    refine (cA _).out.mono ?_; rintro e wB ⟨rfl, rfl⟩
    go_wp2_with fail
    refine (cB _).out.mono ?_; rintro e wC ⟨rfl, hbC⟩
    go_wp2_with fail
    go_ret
    exact ⟨rfl, hbI.trans (hbC.mono hbI.size)⟩
theorem pairsPrints_row (v : Value) (l : PL) (key : ByteArray) (w : World) (h : PSl w v l) (hbd : PBd l) (hkey : key.size ≤ maxLen) (hL : laidMetH Tryd.prog Rows.pairsPrintsRow.laid w) :
    Calls Tryd.prog 4 #[v, .string key] w fun e w' => e = .returned (.bool true) ∧ Below w.heap.size w w' := by
  have := pairsPrints_law v l key.data.toList w h hbd (by unfold maxLen at hkey; simpa using hkey) (cardBase.etype_of_laid (by simp [Rows.pairsPrintsRow]) hL)
  rwa [bs_data] at this
open Go.ChangeShapes Go.WideShapes in
theorem pairs_open {H : Type} {enc : TypeId × Value → H} {W : World} {fuel : Nat} {a0 : Option Addr} {len cap : Nat} {x : DataW H × List MemPlace}
    (h : DataW.trod enc Tryd.prog W 0 (fun _ => true) true fuel 24 (Value.slice a0 len cap).cells.toList = some x) : ∃ l, PSl W (.slice a0 len cap) l ∧ PBd l :=
  psl_of_trod Tryd.underlying24 Tryd.underlying47 rfl (by kernel_rfl) rfl rfl rfl rfl h
end Go.Proofs.YtbbnnhaboegedaaDoor
