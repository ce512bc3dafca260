/- What one has of a key, what it is, what is said to an offer: by the program; the first two by the document. -/
import Derived.Test.YtfeenkofnbefaaaGreatDoorClone
import Derived.Test.YtfeenkofnbefaaaGreatDoorNego
import Derived.Test.YtfeenkofnbefaaaGreatDoorYes
import Derived.Test.YtfeenkofnbefaaaGreatDoorResult
import Derived.Test.YtfeenkofnbefaaaGreatDoorFields
import Derived.Test.YtfeenkofnbefaaaGreatDoorRange
set_option linter.unusedSectionVars false
set_option linter.unusedSimpArgs false
set_option linter.unusedVariables false
namespace Go.Proofs.YtfeenkofnbefaaaGreatDoor
open Go Go.RowKit
set_option linter.unusedVariables false
set_option linter.unusedSectionVars false
set_option linter.unusedSimpArgs false
set_option maxRecDepth 100000
theorem ofP_none {l : PL} {key : List UInt8} (h : findK keyRows key = none) : ofP l key = ([], 5) := by unfold ofP; rw [h]
theorem ofP_some {l : PL} {key : List UInt8} {k : KR} (h : findK keyRows key = some k) : ofP l key = (if (findP l key).2 = true then (findP l key).1 else k.dv, 0) := by unfold ofP; rw [h]
theorem dv_len : ∀ k ∈ keyRows, k.dv.length ≤ 255 := by decide +kernel
theorem findP_len {l : PL} {key : List UInt8} {B : Nat} (h : ∀ k, (l.getD k ([], [])).2.length ≤ B) : (findP l key).1.length ≤ B := by
  induction l with
  | nil => simp [findP]
  | cons x l ih =>
    rw [findP]
    split
    · exact h 0
    · exact ih fun k => by have := h (k + 1); simpa using this
theorem ofP_len {l : PL} {key : List UInt8} {B : Nat} (h : ∀ k, (l.getD k ([], [])).2.length ≤ B) (hB : 255 ≤ B) : (ofP l key).1.length ≤ B := by
  unfold ofP
  cases hk : findK keyRows key with
  | none => simp
  | some k =>
    simp only
    split
    · exact findP_len h
    · exact Nat.le_trans (dv_len k (List.mem_of_find?_eq_some hk)) hB
def pairV (x : List UInt8 × List UInt8) : Value := .agg #[.string (bs x.1), .string (bs x.2)]
section
variable (g : Nat) (ov rv : Value) (own rec : PL) (key : List UInt8) (w : World) (hb : Blk w g 159 #[ov, rv]) (hk : key.length ≤ 9223372036854775807) (hT : AS w)
include hb hk hT
theorem nOwn_any (h : PSl w ov own) (hn : own.length ≤ 9223372036854775807) : Calls Tryz.prog 36 #[.pointer (some ⟨g, 0, none⟩), .string (bs key)] w fun e w' => e = .returned (.tuple #[.string (bs (ofP own key).1), errV 31 (ofP own key).2]) ∧ Below w.heap.size w w' := by
  have co := hid (of_any key w hT)
  unfold OfPost at co
  have cf := fun W (hb : Below w.heap.size w W) => hid (find_any ov own key W (h.below hb) hn)
  unfold PFindPost at cf
  have HN := hid (@ofP_none own key)
  have HS := hid (fun k h => @ofP_some own key k h)
  have hgl := hb.lt
  have n0 := hb.cell 0
  simp only [List.getElem?_toArray, List.getElem?_cons_zero] at n0
  cases hfk : findK keyRows key with
  | none =>
    rw [hfk] at co
    have HE := hid (HN.out hfk)
    simp only [keyVal, keyErr] at co
    rw [errV_pos _ _ (by omega)] at co
    clear HN HS hfk
    go_enter Tryz.func36, Tryz.ntmps36
    go_wp2_with fail
    refine co.out.mono ?_
    rintro e w1 ⟨rfl, hb1⟩
    go_wp2
    go_ret2
    exact ⟨by rw [HE.out]; rfl, hb1.alloc hb1.size _⟩
  | some k =>
    rw [hfk] at co
    have HE := hid (HS.out _ hfk)
    simp only [keyVal, keyErr, KR.cells, errV_zero] at co
    generalize findP own key = fp at *
    obtain ⟨f1, f2⟩ := fp
    simp only at *
    clear HN HS hfk
    go_enter Tryz.func36, Tryz.ntmps36
    go_wp2_with fail
    refine co.out.mono ?_
    rintro e w1 ⟨rfl, hb1⟩
    obtain ⟨W2, hW2⟩ : ∃ W2, w1.alloc (.cells #[.string (bs k.name), .int .i64 (dnum k.lk : Int), .int .i64 (dnum k.ll : Int), .int .i64 (dnum k.lh : Int), .string (bs k.dv), .bool (k.no == [78]), .bool (k.lo == [76])] 161) = W2 := ⟨_, rfl⟩
    have hA2 : Below w1.heap.size w1 W2 := by rw [← hW2]; exact (Below.refl _ _).alloc (Nat.le_refl _) _
    have b2 := hb1.trans (hA2.mono hb1.size)
    have d4 : W2.cell? ⟨w1.heap.size, 4, none⟩ = some (.string (bs k.dv)) := by rw [← hW2]; simp
    have hlt2 : w1.heap.size < W2.heap.size := by rw [← hW2]; simp
    have n0 := (b2.cell (p := ⟨g, 0, none⟩) hgl).trans n0
    have cf2 := cf _ b2
    go_wp2_with fail
    refine cf2.out.mono ?_
    rintro e w3 ⟨rfl, hb3⟩
    have b3 := b2.trans (hb3.mono b2.size)
    have d4 := (hb3.cell (p := ⟨w1.heap.size, 4, none⟩) hlt2).trans d4
    cases f2 with
    | true =>
      go_wp2
      go_ret2
      exact ⟨by rw [HE.out]; rfl, b3⟩
    | false =>
      go_wp2
      go_ret2
      exact ⟨by rw [HE.out]; rfl, b3⟩
theorem nValue_any (h : PSl w rv rec) (hn : rec.length ≤ 9223372036854775807) : Calls Tryz.prog 38 #[.pointer (some ⟨g, 0, none⟩), .string (bs key)] w fun e w' => e = .returned (.tuple #[.string (bs (ofP rec key).1), errV 31 (ofP rec key).2]) ∧ Below w.heap.size w w' := by
  have co := hid (of_any key w hT)
  unfold OfPost at co
  have cf := fun W (hb : Below w.heap.size w W) => hid (find_any rv rec key W (h.below hb) hn)
  unfold PFindPost at cf
  have HN := hid (@ofP_none rec key)
  have HS := hid (fun k h => @ofP_some rec key k h)
  have hgl := hb.lt
  have n1 := hb.cell 1
  simp only [List.getElem?_toArray, List.getElem?_cons_zero, List.getElem?_cons_succ] at n1
  cases hfk : findK keyRows key with
  | none =>
    rw [hfk] at co
    have HE := hid (HN.out hfk)
    simp only [keyVal, keyErr] at co
    rw [errV_pos _ _ (by omega)] at co
    clear HN HS hfk
    go_enter Tryz.func38, Tryz.ntmps38
    go_wp2_with fail
    refine co.out.mono ?_
    rintro e w1 ⟨rfl, hb1⟩
    go_wp2
    go_ret2
    exact ⟨by rw [HE.out]; rfl, hb1.alloc hb1.size _⟩
  | some k =>
    rw [hfk] at co
    have HE := hid (HS.out _ hfk)
    simp only [keyVal, keyErr, KR.cells, errV_zero] at co
    generalize findP rec key = fp at *
    obtain ⟨f1, f2⟩ := fp
    simp only at *
    clear HN HS hfk
    go_enter Tryz.func38, Tryz.ntmps38
    go_wp2_with fail
    refine co.out.mono ?_
    rintro e w1 ⟨rfl, hb1⟩
    obtain ⟨W2, hW2⟩ : ∃ W2, w1.alloc (.cells #[.string (bs k.name), .int .i64 (dnum k.lk : Int), .int .i64 (dnum k.ll : Int), .int .i64 (dnum k.lh : Int), .string (bs k.dv), .bool (k.no == [78]), .bool (k.lo == [76])] 161) = W2 := ⟨_, rfl⟩
    have hA2 : Below w1.heap.size w1 W2 := by rw [← hW2]; exact (Below.refl _ _).alloc (Nat.le_refl _) _
    have b2 := hb1.trans (hA2.mono hb1.size)
    have d4 : W2.cell? ⟨w1.heap.size, 4, none⟩ = some (.string (bs k.dv)) := by rw [← hW2]; simp
    have hlt2 : w1.heap.size < W2.heap.size := by rw [← hW2]; simp
    have n1 := (b2.cell (p := ⟨g, 1, none⟩) hgl).trans n1
    have cf2 := cf _ b2
    go_wp2_with fail
    refine cf2.out.mono ?_
    rintro e w3 ⟨rfl, hb3⟩
    have b3 := b2.trans (hb3.mono b2.size)
    have d4 := (hb3.cell (p := ⟨w1.heap.size, 4, none⟩) hlt2).trans d4
    cases f2 with
    | true =>
      go_wp2
      go_ret2
      exact ⟨by rw [HE.out]; rfl, b3⟩
    | false =>
      go_wp2
      go_ret2
      exact ⟨by rw [HE.out]; rfl, b3⟩
end
theorem rof_any (v : Value) (l : PL) (key : List UInt8) (w : World) (h : PSl w v l) (hn : l.length ≤ 9223372036854775807) (hk : key.length ≤ 9223372036854775807) :
    Calls Tryz.prog 70 #[v, .string (bs key)] w fun e w' => e = .returned (.tuple #[.string (bs (ofP l key).1), .int .i64 ((ofP l key).2 : Nat)]) ∧ Below w.heap.size w w' := by
  have co := hid (keyOf_any key w)
  have cf := fun W (hb : Below w.heap.size w W) => hid (rfind_any v l key W (h.below hb) hn)
  unfold PFindPost at cf
  have HN := hid (@ofP_none l key)
  have HS := hid (fun k h => @ofP_some l key k h)
  cases hfk : findK keyRows key with
  | none =>
    rw [hfk] at co
    have HE := hid (HN.out hfk)
    simp only [keyVal, keyErr] at co
    clear HN HS hfk
    go_enter Tryz.func70, Tryz.ntmps70
    go_wp2_with fail
    refine co.out.mono ?_
    rintro e w1 ⟨rfl, hb1⟩
    go_wp2
    go_ret2
    exact ⟨by rw [HE.out]; rfl, hb1.alloc hb1.size _⟩
  | some k =>
    rw [hfk] at co
    have HE := hid (HS.out _ hfk)
    simp only [keyVal, keyErr, KR.cells] at co
    generalize findP l key = fp at *
    obtain ⟨f1, f2⟩ := fp
    simp only at *
    clear HN HS hfk
    go_enter Tryz.func70, Tryz.ntmps70
    go_wp2_with fail
    refine co.out.mono ?_
    rintro e w1 ⟨rfl, hb1⟩
    obtain ⟨W2, hW2⟩ : ∃ W2, w1.alloc (.cells #[.string (bs k.name), .int .i64 (dnum k.lk : Int), .int .i64 (dnum k.ll : Int), .int .i64 (dnum k.lh : Int), .string (bs k.dv), .bool (k.no == [78]), .bool (k.lo == [76])] 161) = W2 := ⟨_, rfl⟩
    have hA2 : Below w1.heap.size w1 W2 := by rw [← hW2]; exact (Below.refl _ _).alloc (Nat.le_refl _) _
    have b2 := hb1.trans (hA2.mono hb1.size)
    have d4 : W2.cell? ⟨w1.heap.size, 4, none⟩ = some (.string (bs k.dv)) := by rw [← hW2]; simp
    have hlt2 : w1.heap.size < W2.heap.size := by rw [← hW2]; simp
    have cf2 := cf _ b2
    go_wp2_with fail
    refine cf2.out.mono ?_
    rintro e w3 ⟨rfl, hb3⟩
    have b3 := b2.trans (hb3.mono b2.size)
    have d4 := (hb3.cell (p := ⟨w1.heap.size, 4, none⟩) hlt2).trans d4
    cases f2 with
    | true =>
      go_wp2
      go_ret2
      exact ⟨by rw [HE.out]; rfl, b3⟩
    | false =>
      go_wp2
      go_ret2
      exact ⟨by rw [HE.out]; rfl, b3⟩
section
variable (g : Nat) (mv rv : Value) (key : List UInt8) (w : World) (hb : Blk w g 95 #[mv, rv]) (hk : key.length ≤ 9223372036854775807)
include hb hk
theorem rOwn_any (mine : PL) (h : PSl w mv mine) (hn : mine.length ≤ 9223372036854775807) : Calls Tryz.prog 35 #[.pointer (some ⟨g, 0, none⟩), .string (bs key)] w fun e w' => e = .returned (.tuple #[.string (bs (ofP mine key).1), .int .i64 ((ofP mine key).2 : Nat)]) ∧ Below w.heap.size w w' := by
  have co := hid (rof_any mv mine key w h hn hk)
  have n0 := hb.cell 0
  simp only [List.getElem?_toArray, List.getElem?_cons_zero] at n0
  generalize ofP mine key = q at *
  go_enter Tryz.func35, Tryz.ntmps35
  go_wp2_with fail
  refine co.out.mono ?_
  rintro e w1 ⟨rfl, hb1⟩
  go_wp2
  go_ret2
  exact ⟨rfl, hb1⟩
theorem rValue_any (rec : PL) (h : PSl w rv rec) (hn : rec.length ≤ 9223372036854775807) : Calls Tryz.prog 37 #[.pointer (some ⟨g, 0, none⟩), .string (bs key)] w fun e w' => e = .returned (.tuple #[.string (bs (ofP rec key).1), .int .i64 ((ofP rec key).2 : Nat)]) ∧ Below w.heap.size w w' := by
  have co := hid (rof_any rv rec key w h hn hk)
  have n1 := hb.cell 1
  simp only [List.getElem?_toArray, List.getElem?_cons_zero, List.getElem?_cons_succ] at n1
  generalize ofP rec key = q at *
  go_enter Tryz.func37, Tryz.ntmps37
  go_wp2_with fail
  refine co.out.mono ?_
  rintro e w1 ⟨rfl, hb1⟩
  go_wp2
  go_ret2
  exact ⟨rfl, hb1⟩
end
end Go.Proofs.YtfeenkofnbefaaaGreatDoor
