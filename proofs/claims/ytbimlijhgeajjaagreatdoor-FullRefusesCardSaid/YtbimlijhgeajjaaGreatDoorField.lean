/- What is known of a PDU: by the program. -/
import Derived.Test.YtbimlijhgeajjaaGreatDoorHeadRow
import Derived.Test.YtbimlijhgeajjaaGreatDoorSeen
import Derived.Test.YtbimlijhgeajjaaGreatDoorProg
import Derived.Test.YtbimlijhgeajjaaGreatDoorBase
set_option linter.unusedSectionVars false
set_option linter.unusedSimpArgs false
set_option linter.unusedVariables false
namespace Go.Proofs.YtbimlijhgeajjaaGreatDoor
open Go Go.RowKit
set_option linter.unusedVariables false
set_option linter.unusedSectionVars false
set_option linter.unusedSimpArgs false
set_option maxRecDepth 100000
def hE : Option HR → Nat | none => 1 | some _ => 0
def HErr (o : Option HR) : Value := errV 32 (hE o)
theorem row_cell {r : HR} {g : Nat} {W : World} (h : Blk W g 9 (rowCells r).toArray) (i : Nat) (x : List UInt8) (hx : r.words[i]? = some x) : W.cell? ⟨g, i, none⟩ = some (.string (bs x)) := by
  rw [h.cell i, rowCells, List.getElem?_toArray, List.getElem?_map, hx]; rfl
theorem findH_mem {op : Int} {r : HR} (h : findH op = some r) : r ∈ headRows := List.mem_of_find?_eq_some h
theorem eqnil (W : World) (a : Option Addr) (n c : Nat) : (binOp .eql 23 (.slice a n c) (.slice none 0 0)).run Tryz.prog W = .ok (.bool a.isNone) W := by
  cases a <;> rfl
theorem dec3_len (n : Nat) : (dec3 n).length ≤ 18 := by
  unfold dec3
  split
  · simp
  · split <;> simp
section
variable (op : Int) (h0 : -9223372036854775808 ≤ op) (h1 : op ≤ 9223372036854775807) (w : World) (hT : AS w) (hP : PT w)
include h0 h1 hT hP
theorem hflags_any : Calls Tryz.prog 135 #[.int .i64 op] w fun e w' => e = .returned (.tuple #[.int .i64 (hFlags (findH op) : Nat), HErr (findH op)]) ∧ Below w.heap.size w w' := by
  have c1 := hid (row_any op h0 h1 w hT hP)
  unfold RowPost at c1
  clear hT hP h0 h1
  cases hf : findH op with
  | none =>
    rw [hf] at c1
    go_enter Tryz.func135, Tryz.ntmps135
    go_wp2_with fail
    refine c1.out.mono ?_
    rintro e w1 ⟨v, rfl, hb, ⟨_, rfl⟩ | ⟨r', g, hr, _⟩⟩
    · have he := eqnil w1
      go_wp2
      go_ret2
      exact ⟨rfl, hb⟩
    · cases hr
  | some r =>
    rw [hf] at c1
    have hfl := (head_fine r (findH_mem hf)).2.2.2.1
    have hlt := (head_fine r (findH_mem hf)).2.2.2.2.2.1
    have c2 := fun w => hid (atoi_any (dec3 r.flags) (r.flags : Int) w (dec3_len _) hfl)
    go_enter Tryz.func135, Tryz.ntmps135
    go_wp2_with fail
    refine c1.out.mono ?_
    rintro e w1 ⟨v, rfl, hb, ⟨h, _⟩ | ⟨r', g, hr, rfl, hg, hB⟩⟩
    · cases h
    cases hr
    have he := eqnil w1
    have x1 := row_cell hB 2 (dec3 r.flags) rfl
    have hl : 2 < r.words.length := by simp [HR.words]
    go_wp2_with (go_at_call 114; refine (c2 _).out.mono ?_; rintro e w2 ⟨rfl, hb2⟩)
    go_ret2
    exact ⟨rfl, hb.trans (hb2.mono hb.size)⟩
end
end Go.Proofs.YtbimlijhgeajjaaGreatDoor

namespace Go.Proofs.YtbimlijhgeajjaaGreatDoor
open Go Go.RowKit
set_option linter.unusedVariables false
set_option linter.unusedSectionVars false
set_option linter.unusedSimpArgs false
set_option maxRecDepth 100000
theorem infoField : (Tryz.prog.info? 175).map (fun i => (i.zero, i.size, i.bytes)) = some (some (.agg #[.string ⟨#[]⟩, .int .i64 0, .int .i64 0]), 3, 32) := by kernel_rfl
theorem fieldCells_snoc (l : List FR) (k : Nat) (f : FR) (h : l[k]? = some f) : fieldCells (l.take (k + 1)) = fieldCells (l.take k) ++ f.cells := by
  obtain ⟨h1, h2⟩ := List.getElem?_eq_some_iff.1 h
  rw [List.take_succ_eq_append_getElem h1, fieldCells, List.flatMap_append, h2]
  simp [fieldCells]
theorem fields_pos : ∀ r ∈ headRows, 0 < r.fields.length := by decide +kernel
def FieldsPost (op : Int) (w : World) (e : Ending) (w' : World) : Prop :=
  ∃ v, e = .returned (.tuple #[v, HErr (findH op)]) ∧ Sl w' v 3 (hFields (findH op)).length (fieldCells (hFields (findH op))) ∧ (findH op = none → v = .slice none 0 0) ∧ Below w.heap.size w w'
def RFields (r : HR) (w w1 : World) (v i : Value) (wr : World) : Prop :=
  ∃ k : Nat, k ≤ r.fields.length ∧ i = .int .i64 (k : Nat) ∧ wr.ownsRow w1.heap.size 175 3 v k (fieldCells (r.fields.take k)) ∧ Below w1.heap.size w1 wr
set_option maxHeartbeats 4000000 in
theorem hfields_any (op : Int) (h0 : -9223372036854775808 ≤ op) (h1 : op ≤ 9223372036854775807) (w : World) (hT : AS w) (hP : PT w) : Calls Tryz.prog 121 #[.int .i64 op] w fun e w' => FieldsPost op w e w' := by
  have c1 := hid (row_any op h0 h1 w hT hP)
  unfold RowPost at c1
  clear hT hP h0 h1
  unfold FieldsPost
  cases hf : findH op with
  | none =>
    rw [hf] at c1
    go_enter Tryz.func121, Tryz.ntmps121
    go_wp2_with fail
    refine c1.out.mono ?_
    rintro e w1 ⟨v, rfl, hb, ⟨_, rfl⟩ | ⟨r', g, hr, _⟩⟩
    · have he := eqnil w1
      go_wp2
      go_ret2
      exact ⟨_, rfl, sl_nil _ _, fun _ => rfl, hb⟩
    · cases hr
  | some r =>
    rw [hf] at c1
    have hfine := (head_fine r (findH_mem hf)).2.2.2.2.2.2
    go_enter Tryz.func121, Tryz.ntmps121
    go_wp2_with fail
    refine c1.out.mono ?_
    rintro e w1 ⟨v, rfl, hb1, ⟨h, _⟩ | ⟨r', g, hr, rfl, hg, hB⟩⟩
    · cases h
    cases hr
    have he := eqnil w1
    have hwl : r.words.length = r.fields.length + 3 := by simp [HR.words]
    have hnf := hfine.1
    have hn0 := fields_pos r (findH_mem hf)
    have hne : ¬ r.fields = [] := by intro h; rw [h] at hn0; simp at hn0
    have HB := hid hB
    have HF := hid hfine.2
    clear hB hfine c1
    rw [hwl]
    go_wp2
    go_loopw [5, 21] (fun v i wr => RFields r w w1 v i wr) (fun _ i _ => r.fields.length - (intOf i).toNat)
    case atStart => exact ⟨0, by omega, rfl, World.ownsRow_nil _ _ _ _, Below.refl _ _⟩
    case round =>
      obtain ⟨k, hk, rfl, hown, hb⟩ := hrel
      have hsz := hb.size
      by_cases hlt : k < r.fields.length
      · obtain ⟨f, hfk⟩ : ∃ f, r.fields[k]? = some f := ⟨r.fields[k], List.getElem?_eq_getElem hlt⟩
        obtain ⟨q1, q2, q3, q4, q5, q6, q7⟩ := HF.out f (List.mem_of_getElem? hfk)
        have hx : r.words[3 + k]? = some f.text := by
          rw [HR.words, show 3 + k = (k + 1 + 1) + 1 by omega]
          simp [hfk]
        have x0 : wr.cell? ⟨g, 3 + k, none⟩ = some (.string (bs f.text)) := (hb.cell (p := ⟨g, 3 + k, none⟩) HB.out.lt).trans (row_cell HB.out (3 + k) _ hx)
        have c2 := fun w => hid (split1_any 58 f.text w (by omega))
        rw [q1] at c2
        simp only [FR.words, sArr_bs, List.length_cons, List.length_nil, List.map_cons, List.map_nil, Nat.reduceAdd] at c2
        have c3 := fun w => hid (atoi_any (dec3 f.at_) (f.at_ : Int) w (dec3_len _) q3)
        have c4 := fun w => hid (atoi_any (dec3 f.size) (f.size : Int) w (dec3_len _) q4)
        have Hn := hid (fieldCells_snoc r.fields k f hfk)
        have HO := hid hown
        generalize fieldCells (r.fields.take k) = xs at *
        clear hown hx hfk q1 q3 q4
        go_wp2_with fail
        refine (c2 _).out.mono ?_; rintro e w2 ⟨rfl, rfl⟩
        have B2 := Blk.new wr 9 #[.string (bs f.name), .string (bs (dec3 f.at_)), .string (bs (dec3 f.size))]
        have hb2 : Below w1.heap.size w1 (wr.alloc (.cells #[.string (bs f.name), .string (bs (dec3 f.at_)), .string (bs (dec3 f.size))] 9)) := hb.alloc hsz _
        have HO2 := hid (HO.out.alloc (.cells #[.string (bs f.name), .string (bs (dec3 f.at_)), .string (bs (dec3 f.size))] 9))
        go_wp2_with fail
        refine (c3 _).out.mono ?_; rintro e w3 ⟨rfl, hb3⟩
        have B3 := B2.below hb3
        have HO3 := hid (owns_below HO2.out hb3)
        have hb3 := hb2.trans (hb3.mono hb2.size)
        have y2 : w3.cell? ⟨wr.heap.size, 2, none⟩ = some (.string (bs (dec3 f.size))) := (B3.cell 2).trans rfl
        go_wp2_with fail
        refine (c4 _).out.mono ?_; rintro e w4 ⟨rfl, hb4⟩
        have B4 := B3.below hb4
        have HO4 := hid (owns_below HO3.out hb4)
        have hb4 := hb3.trans (hb4.mono hb3.size)
        have z0 : w4.cell? ⟨wr.heap.size, 0, none⟩ = some (.string (bs f.name)) := (B4.cell 0).trans rfl
        clear B2 B3 B4 HO2 HO3
        have hs4 := hb4.size
        go_wp2_with (at_builtin; refine list_append_own rfl (.tmp 41) (.tmp 48) 171 rfl w1.heap.size 175 (.agg #[.string ⟨#[]⟩, .int .i64 0, .int .i64 0]) 3 32 Tryz.underlying171 infoField rfl (by decide) u5 k xs rfl (HO4.out.alloc _) ⟨w4.heap.size, 0, none⟩ 1 1 f.cells rfl rfl (by intro j u hu; rw [show (⟨w4.heap.size, 0, none⟩ : Addr).add j = ⟨w4.heap.size, j, none⟩ by (simp [Addr.add]; omega), cell_of_row _ _ _ _ _ _ (heap_alloc_new _ _)]; simpa [FR.cells] using hu) (by simp [Value.oneCell', FR.cells]) (by unfold maxLen; omega) (by omega) (by simp; omega) ?_; intro v' w5 hown5 hgrow _)
        go_roundw
        case rel => exact ⟨k + 1, by omega, by go_num, by rw [Hn.out]; exact hown5, below_append (hb4.alloc hs4 _) (HO4.out.alloc _) hgrow (by simp; omega)⟩
        case measure => simp [intOf]; omega
      · obtain rfl : k = r.fields.length := by omega
        go_wp2
        go_ret2
        rw [List.take_length] at hown
        exact ⟨_, rfl, sl_of_owns hown, (fun h => by cases h), hb1.trans (hb.mono hb1.size)⟩
end Go.Proofs.YtbimlijhgeajjaaGreatDoor

namespace Go.Proofs.YtbimlijhgeajjaaGreatDoor
open Go.RowKit
set_option linter.unusedVariables false
set_option maxRecDepth 100000
/-- the low k bytes of a number, the highest first -/
def be (n : Nat) : Nat → List UInt8
  | 0 => []
  | k + 1 => UInt8.ofNat (n / 256 ^ k % 256) :: be n k
theorem be_length (n k : Nat) : (be n k).length = k := by induction k with | zero => rfl | succ k ih => simp [be, ih]
theorem be_set (n size k : Nat) (h : k < size) : (List.replicate (size - k) 0 ++ be n k).set (size - 1 - k) (UInt8.ofNat (n / 256 ^ k % 256)) = List.replicate (size - (k + 1)) 0 ++ be n (k + 1) := by
  rw [List.set_append_left _ _ (by simp; omega)]
  rw [show size - k = (size - (k + 1)) + 1 by omega, List.replicate_succ', List.set_append_right _ _ (by simp; omega)]
  simp [be, show size - 1 - k - (size - (k + 1)) = 0 by omega]
def putE (n : Nat) (size : Int) : Nat := if size < 0 ∨ 8 < size then 2 else if 256 ^ size.toNat ≤ n then 4 else 0
def putS (n : Nat) (size : Int) : List UInt8 := if putE n size = 0 then be n size.toNat else []
theorem pow_256 (k : Nat) : (2 : Nat) ^ (8 * k) = 256 ^ k := by rw [Nat.pow_mul]
theorem byte_shift (n k : Nat) : (n : Int) / 2 ^ (8 * k) % 256 = (((UInt8.ofNat (n / 256 ^ k % 256)).toNat : Nat) : Int) := by
  have : (n : Int) / 2 ^ (8 * k) = ((n / 256 ^ k : Nat) : Int) := by
    rw [← pow_256]; simp
  rw [this]; simp
theorem infoB : (Tryz.prog.info? 5).map (fun i => (i.zero, i.size, i.bytes)) = some (some (.int .u8 0), 1, 1) := by kernel_rfl
theorem put_ok (n : Nat) (size : Nat) (w : World) (h1 : n ≤ 18446744073709551615) (hs : size ≤ 8) (hd : n < 256 ^ size) :
    Calls Tryz.prog 140 #[.int .u64 n, .int .i64 size] w fun e w' => e = .returned (.tuple #[.string (bs (be n size)), .nilIface]) ∧ Below w.heap.size w w' := by
  have hq : ((n : Int) / 2 ^ (8 * size) != 0) = false := by
    have : (n : Int) / 2 ^ (8 * size) = ((n / 256 ^ size : Nat) : Int) := by
      rw [← pow_256]; simp
    rw [this, Nat.div_eq_of_lt hd]; rfl
  clear hd
  have hmk := make_bytes (P := Tryz.prog) 197 5 Tryz.underlying197 infoB
  have hmk1 := fun w => hmk size (by omega) w
  have hcv := conv_b (P := Tryz.prog) 197 9 5 5 Tryz.underlying197 Tryz.underlying5 Tryz.underlying9 (be n size) size size (be_length _ _)
  clear hmk
  go_enter Tryz.func140, Tryz.ntmps140
  go_wp2
  all_goals
    go_loopw [29] (fun v wr => ∃ k : Nat, k ≤ size ∧ v = .int .i64 k ∧ wr = w.alloc (.cells (bcells (List.replicate (size - k) 0 ++ be n k)) 5)) (fun v _ => size - (intOf v).toNat)
    case atStart => exact ⟨0, by omega, rfl, by simp [be]⟩
    case round =>
      obtain ⟨k, hk, rfl, rfl⟩ := hrel
      have hlen : (List.replicate (size - k) 0 ++ be n k).length = size := by simp [be_length]; omega
      by_cases hlt : k < size
      · have hset := be_set n size k hlt
        have hg := bcells_getD (List.replicate (size - k) 0 ++ be n k) (size - 1 - k) (by omega)
        have hbs := bcells_set (List.replicate (size - k) 0 ++ be n k) (size - 1 - k) (UInt8.ofNat (n / 256 ^ k % 256))
        rw [hset, ← byte_shift n k] at hbs
        have Hbs := hid hbs; clear hbs hset
        generalize List.replicate (size - k) 0 ++ be n k = l at *
        have e1 : (size : Int) - 1 - k = ((size - 1 - k : Nat) : Int) := by omega
        go_wp2
        go_roundw
        case rel => exact ⟨k + 1, by omega, by go_num, by rw [Hbs.out]⟩
        case measure => simp [intOf]; omega
      · obtain rfl : k = size := by omega
        rw [Nat.sub_self, List.replicate_zero, List.nil_append] at hlen ⊢
        go_wp2
        go_ret2
        exact ⟨rfl, (Below.refl _ _).alloc (Nat.le_refl _) _⟩
theorem put_range (n size : Int) (w : World) (hs : size < 0 ∨ 8 < size) :
    Calls Tryz.prog 140 #[.int .u64 n, .int .i64 size] w fun e w' => e = .returned (.tuple #[.string (bs []), .iface 32 (.int .i64 2)]) ∧ Below w.heap.size w w' := by
  rcases hs with hs | hs
  · go_enter Tryz.func140, Tryz.ntmps140
    go_wp2
    go_ret2
    exact ⟨rfl, Below.refl _ _⟩
  · have hs2 : ¬ size < 0 := by omega
    go_enter Tryz.func140, Tryz.ntmps140
    go_wp2
    go_ret2
    exact ⟨rfl, Below.refl _ _⟩
theorem put_limit (n : Nat) (size : Nat) (w : World) (h1 : n ≤ 18446744073709551615) (hs : size ≤ 8) (hd : 256 ^ size ≤ n) :
    Calls Tryz.prog 140 #[.int .u64 n, .int .i64 size] w fun e w' => e = .returned (.tuple #[.string (bs []), .iface 32 (.int .i64 4)]) ∧ Below w.heap.size w w' := by
  have hs8 : size < 8 := by
    rcases Nat.lt_or_ge size 8 with h | h
    · exact h
    · obtain rfl : size = 8 := by omega
      omega
  have hq : ((n : Int) / 2 ^ (8 * size) != 0) = true := by
    have : (n : Int) / 2 ^ (8 * size) = ((n / 256 ^ size : Nat) : Int) := by
      rw [← pow_256]; simp
    have h2 : 0 < n / 256 ^ size := Nat.div_pos hd (Nat.pow_pos (by omega))
    rw [this, bne_iff_ne]; omega
  clear hd
  go_enter Tryz.func140, Tryz.ntmps140
  go_wp2
  go_ret2
  exact ⟨rfl, Below.refl _ _⟩
theorem put_any (n : Nat) (size : Int) (w : World) (h1 : n ≤ 18446744073709551615) :
    Calls Tryz.prog 140 #[.int .u64 n, .int .i64 size] w fun e w' => e = .returned (.tuple #[.string (bs (putS n size)), errV 32 (putE n size)]) ∧ Below w.heap.size w w' := by
  by_cases hs : size < 0 ∨ 8 < size
  · have e : putE n size = 2 := by simp [putE, hs]
    rw [putS, e]
    exact put_range n size w hs
  · obtain ⟨k, rfl⟩ := Int.eq_ofNat_of_zero_le (show 0 ≤ size by omega)
    by_cases hd : 256 ^ k ≤ n
    · have e : putE n k = 4 := by simp [putE, hs, hd]
      rw [putS, e]
      exact put_limit n k w h1 (by omega) hd
    · have e : putE n k = 0 := by simp [putE, hs, hd]
      rw [putS, e]
      exact put_ok n k w h1 (by omega) (by omega)
theorem number_any (n : Nat) (size : Int) (w : World) (h1 : n ≤ 18446744073709551615) :
    Calls Tryz.prog 95 #[.int .u64 n, .int .i64 size] w fun e w' => e = .returned (.tuple #[.string (bs (putS n size)), .int .i64 (putE n size)]) ∧ Below w.heap.size w w' := by
  by_cases hs : size < 0 ∨ 8 < size
  · have e : putE n size = 2 := by simp [putE, hs]
    rw [putS, e]
    clear e
    rcases hs with hs | hs
    · go_enter Tryz.func95, Tryz.ntmps95
      go_wp2
      go_ret2
      exact ⟨rfl, Below.refl _ _⟩
    · have hs1 : 0 ≤ size := by omega
      have hb : decide (size ≤ 8) = false := by simp; omega
      go_enter Tryz.func95, Tryz.ntmps95
      go_wp2
      go_ret2
      exact ⟨rfl, Below.refl _ _⟩
  · obtain ⟨k, rfl⟩ := Int.eq_ofNat_of_zero_le (show 0 ≤ size by omega)
    have hk : k ≤ 8 := by omega
    clear hs
    have hb : decide ((k : Int) ≤ 8) = true := by simp; omega
    have cv := conv1 (P := Tryz.prog) 197 9 5 5 Tryz.underlying197 Tryz.underlying5 Tryz.underlying9
    go_enter Tryz.func95, Tryz.ntmps95
    go_wp2
    go_loopw [0, 6, 11] (fun x o i wr => ∃ j : Nat, j ≤ k ∧ i = .int .i64 j ∧ x = .int .u64 (n / 256 ^ j : Nat) ∧ o = .string (bs (be n j)) ∧ Below w.heap.size w wr) (fun _ _ i _ => k - (intOf i).toNat)
    case atStart => exact ⟨0, by omega, rfl, by simp, rfl, Below.refl _ _⟩
    case round =>
      obtain ⟨j, hj, rfl, rfl, rfl, hb⟩ := hrel
      have hxl : n / 256 ^ j ≤ n := Nat.div_le_self _ _
      have hl : (be n j).length ≤ 8 := by rw [be_length]; omega
      by_cases hlt : j < k
      · have hx : n / 256 ^ (j + 1) = n / 256 ^ j / 256 := by rw [Nat.pow_succ, Nat.div_div_eq_div_mul]
        have Hx := hid hx; clear hx
        have hbe : be n (j + 1) = UInt8.ofNat (n / 256 ^ j % 256) :: be n j := rfl
        have Hbe := hid hbe; clear hbe
        generalize n / 256 ^ j = x at *
        generalize be n j = l at *
        go_wp2
        go_roundw
        case rel => exact ⟨j + 1, by omega, by go_num, by rw [Hx.out]; go_num, by rw [Hbe.out]; rfl, hb.alloc hb.size _⟩
        case measure => simp [intOf]; omega
      · obtain rfl : j = k := by omega
        by_cases hd : 256 ^ j ≤ n
        · have e : putE n j = 4 := by simp [putE, hd]; omega
          have He := hid e
          have h2 : 0 < n / 256 ^ j := Nat.div_pos hd (Nat.pow_pos (by omega))
          clear e hd
          generalize n / 256 ^ j = x at *
          go_wp2
          go_ret2
          exact ⟨by rw [putS, He.out]; rfl, by assumption⟩
        · have e : putE n j = 0 := by simp [putE, hd]; omega
          have He := hid e
          have h2 : n / 256 ^ j = 0 := Nat.div_eq_of_lt (by omega)
          rw [h2]
          clear e hd
          go_wp2
          go_ret2
          exact ⟨by rw [putS, He.out]; rfl, by assumption⟩
/-- the number that bytes are, the highest first -/
def num (l : List UInt8) : Nat := l.foldl (fun n c => n * 256 + c.toNat) 0
theorem num_snoc (l : List UInt8) (c : UInt8) : num (l ++ [c]) = num l * 256 + c.toNat := by simp [num]
theorem num_lt (l : List UInt8) : num l < 256 ^ l.length := by
  rw [← List.reverse_reverse l]
  generalize l.reverse = r
  induction r with
  | nil => simp [num]
  | cons c r ih =>
    rw [List.reverse_cons, num_snoc, List.length_append]
    have := c.toNat_lt
    simp only [List.length_singleton, Nat.pow_succ]
    omega
theorem or_byte (n c : Nat) (hn : n < 72057594037927936) (hc : c < 256) : bits .or .u64 ((n : Int) * 256) (c : Int) = ((n * 256 + c : Nat) : Int) := by
  have := u64_or_nat (n * 256) c (by omega) (by omega)
  rw [nat_join 8 (n * 256) c (by omega) (by omega)] at this
  rw [← this]; simp
end Go.Proofs.YtbimlijhgeajjaaGreatDoor
