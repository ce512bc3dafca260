/- Who is there: target.List, by the program and by the document. -/
import Derived.Test.YtbimlijhgeajjaaGreatDoorConfIn
import Derived.Test.YtbimlijhgeajjaaGreatDoorParse
import Derived.Test.YtbimlijhgeajjaaGreatDoorHeadRow
import Derived.Lib.ItoaLen
import Derived.Deep.RegionHeld3
import Derived.Deep.DeepCutAuto
set_option linter.unusedSectionVars false
set_option linter.unusedSimpArgs false
set_option linter.unusedVariables false
namespace Go.Proofs.YtbimlijhgeajjaaGreatDoor
open Go Go.RowKit
set_option linter.unusedVariables false
set_option linter.unusedSectionVars false
set_option linter.unusedSimpArgs false
set_option maxRecDepth 100000
abbrev tgtKey : List UInt8 := [84, 97, 114, 103, 101, 116, 78, 97, 109, 101]
abbrev adrKey : List UInt8 := [84, 97, 114, 103, 101, 116, 65, 100, 100, 114, 101, 115, 115]
def adrOf (g : List UInt8 × Int) : List UInt8 × List UInt8 := (adrKey, g.1 ++ [44] ++ Lib.itoa g.2)
def listOf (gs : GL) (name : List UInt8) (all : Bool) (ts : List (List UInt8)) : PL := ts.flatMap fun t => if (all || t == name) = true then (tgtKey, t) :: gs.map adrOf else []
theorem listOf_step (gs : GL) (name : List UInt8) (all : Bool) (ts : List (List UInt8)) (k : Nat) (h : k < ts.length) : listOf gs name all (ts.take (k + 1)) = listOf gs name all (ts.take k) ++ (if (all || ts.getD k [] == name) = true then (tgtKey, ts.getD k []) :: gs.map adrOf else []) := by
  rw [List.take_succ_eq_append_getElem h, List.getD, List.getElem?_eq_getElem h]
  unfold listOf
  rw [List.flatMap_append]
  simp only [List.flatMap_cons, List.flatMap_nil, List.append_nil, Option.getD_some]
theorem listOf_len (gs : GL) (name : List UInt8) (all : Bool) (ts : List (List UInt8)) : (listOf gs name all ts).length ≤ ts.length * (1 + gs.length) := by
  induction ts with
  | nil => simp [listOf]
  | cons t ts ih =>
    have e : listOf gs name all (t :: ts) = (if (all || t == name) = true then (tgtKey, t) :: gs.map adrOf else []) ++ listOf gs name all ts := by simp [listOf]
    rw [e, List.length_append, List.length_cons, Nat.add_mul]
    have : (if (all || t == name) = true then (tgtKey, t) :: gs.map adrOf else []).length ≤ 1 + gs.length := by
      split
      · simp; omega
      · simp
    omega
theorem map_step (gs : GL) (j : Nat) (h : j < gs.length) : (gs.take (j + 1)).map adrOf = (gs.take j).map adrOf ++ [adrOf (gs.getD j ([], 0))] := by
  rw [List.take_succ_eq_append_getElem h, List.getD, List.getElem?_eq_getElem h, List.map_append]
  rfl
theorem listOf_none (gs : GL) (name : List UInt8) (ts : List (List UInt8)) (h : ts.contains name = false) : listOf gs name false ts = [] := by
  induction ts with
  | nil => rfl
  | cons t ts ih =>
    rw [List.contains_cons, Bool.or_eq_false_iff] at h
    have h1 : (t == name) = false := by
      rw [beq_eq_false_iff_ne] at h ⊢
      exact fun e => h.1 e.symm
    have e : listOf gs name false (t :: ts) = (if (false || t == name) = true then (tgtKey, t) :: gs.map adrOf else []) ++ listOf gs name false ts := by simp [listOf]
    rw [e, ih h.2, h1]
    rfl
def isAny (name : List UInt8) (all : Bool) (ts : List (List UInt8)) : Bool := ts.any fun t => all || t == name
theorem isAny_step (name : List UInt8) (all : Bool) (ts : List (List UInt8)) (k : Nat) (h : k < ts.length) : isAny name all (ts.take (k + 1)) = (isAny name all (ts.take k) || (all || ts.getD k [] == name)) := by
  rw [List.take_succ_eq_append_getElem h, List.getD, List.getElem?_eq_getElem h]
  unfold isAny
  rw [List.any_append]
  simp only [List.any_cons, List.any_nil, Bool.or_false, Option.getD_some]
theorem isAny_false (name : List UInt8) (ts : List (List UInt8)) : isAny name false ts = ts.contains name := by
  induction ts with
  | nil => rfl
  | cons t ts ih =>
    unfold isAny at ih ⊢
    rw [List.any_cons, ih, List.contains_cons, Bool.false_or]
    congr 1
    rw [Bool.eq_iff_iff, beq_iff_eq, beq_iff_eq]
    exact eq_comm
theorem append_far {w0 w1 w2 : World} {base : Nat} {e : TypeId} {size n : Nat} {v : Value} {xs : List Value} (hown : w0.ownsRow base e size v n xs) (hg : w1.grownBy w2 v.ownBlock) (p : Addr) (hp : w0.heap.size ≤ p.block) (hlt : p.block < w1.heap.size) : w2.cell? p = w1.cell? p :=
  World.cell?_of_block (hg.block p.block hlt (by intro e; have := (hown.lt p.block e.symm).2; omega))
def RL1 (gs : GL) (name : List UInt8) (all : Bool) (ts : List (List UInt8)) (B : Nat) (W : World) (o i : Value) (wr : World) : Prop :=
  ∃ k : Nat, k ≤ ts.length ∧ i = .int .i64 (k : Nat) ∧ wr.ownsRow B 83 2 o (listOf gs name all (ts.take k)).length (pairCells (listOf gs name all (ts.take k))) ∧ Below B W wr
def RL1R (gs : GL) (name : List UInt8) (all : Bool) (ts : List (List UInt8)) (B : Nat) (W : World) (o b i : Value) (wr : World) : Prop :=
  ∃ k : Nat, k ≤ ts.length ∧ i = .int .i64 (k : Nat) ∧ b = .bool (isAny name all (ts.take k)) ∧ wr.ownsRow B 83 2 o (listOf gs name all (ts.take k)).length (pairCells (listOf gs name all (ts.take k))) ∧ Below B W wr
def RL2 (gs : GL) (xs : PL) (B : Nat) (W : World) (o i : Value) (wr : World) : Prop :=
  ∃ j : Nat, j ≤ gs.length ∧ i = .int .i64 (j : Nat) ∧ wr.ownsRow B 83 2 o (xs ++ (gs.take j).map adrOf).length (pairCells (xs ++ (gs.take j).map adrOf)) ∧ Below B W wr
theorem eTgt : (⟨#[84, 97, 114, 103, 101, 116, 78, 97, 109, 101]⟩ : ByteArray) = bs tgtKey := rfl
theorem eAdr : (⟨#[84, 97, 114, 103, 101, 116, 65, 100, 100, 114, 101, 115, 115]⟩ : ByteArray) = bs adrKey := rfl
section
variable (ta ga ua oa : Option Addr) (tc gc uc oc : Nat) (ts : List (List UInt8)) (gs : GL) (us : PL) (sn ss : List UInt8) (lim : Int) (own : PL) (name : List UInt8) (all : Bool) (w : World)
  (C : ConfIn w ts gs us sn ss lim own (.slice ta ts.length tc) (.slice ga gs.length gc) (.slice ua us.length uc) (.slice oa own.length oc))
  (hts : ts.length ≤ 2500) (hgs : gs.length ≤ 2500) (hP : PT w)
include C hts hgs hP
set_option maxHeartbeats 16000000 in
theorem list_any_t : Calls Tryz.prog 139 #[confV (.slice ta ts.length tc) (.slice ga gs.length gc) (.slice ua us.length uc) (.slice oa own.length oc) sn ss lim, .string (bs name), .bool all] w fun e w' =>
    (∃ v, e = .returned (.tuple #[v, errV 32 (if all = false ∧ ts.contains name = false then 8 else 0)]) ∧ w'.ownsRow w.heap.size 83 2 v (listOf gs name all ts).length (pairCells (listOf gs name all ts))) ∧ Below w.heap.size w w' := by
  obtain ⟨W1, hW1⟩ : ∃ W1, w.alloc (.cells #[.slice ta ts.length tc, .slice ga gs.length gc, .slice ua us.length uc, .string (bs sn), .string (bs ss), .int .i64 lim, .slice oa own.length oc] 30) = W1 := ⟨_, rfl⟩
  have b1 : Below w.heap.size w W1 := by rw [← hW1]; exact (Below.refl _ _).alloc (Nat.le_refl _) _
  have t0 : W1.cell? ⟨w.heap.size, 0, none⟩ = some (.slice ta ts.length tc) := by rw [← hW1]; simp
  have t1 : W1.cell? ⟨w.heap.size, 1, none⟩ = some (.slice ga gs.length gc) := by rw [← hW1]; simp
  have t2 : W1.cell? ⟨w.heap.size, 2, none⟩ = some (.slice ua us.length uc) := by rw [← hW1]; simp
  have t3 : W1.cell? ⟨w.heap.size, 3, none⟩ = some (.string (bs sn)) := by rw [← hW1]; simp
  have t4 : W1.cell? ⟨w.heap.size, 4, none⟩ = some (.string (bs ss)) := by rw [← hW1]; simp
  have t5 : W1.cell? ⟨w.heap.size, 5, none⟩ = some (.int .i64 lim) := by rw [← hW1]; simp
  have t6 : W1.cell? ⟨w.heap.size, 6, none⟩ = some (.slice oa own.length oc) := by rw [← hW1]; simp
  have z1 : W1.heap.size = w.heap.size + 1 := by rw [← hW1]; simp
  have ch := fun W (hb : Below w.heap.size w W) => hid (has_any ta tc (.slice ga gs.length gc) (.slice ua us.length uc) (.slice oa own.length oc) sn ss lim ts name W (C.ht.below hb) C.tn)
  have tn := C.tn
  have gn := C.gn
  have HC := hid C
  unfold confV at ch ⊢
  have hpw : w.heap.size < W1.heap.size := by omega
  cases all with
  | true =>
    clear C ch
    go_enter Tryz.func139, Tryz.ntmps139
    have T0 := hid t0
    have T1 := hid t1
    clear t0 t1 t2 t3 t4 t5 t6
    have t0 := T0.out
    go_wp2
    clear t0
    go_loopw [8, 25] (fun o i wr => RL1 gs name true ts W1.heap.size W1 o i wr) (fun _ i _ => ts.length - (intOf i).toNat)
    case atStart => exact ⟨0, by omega, rfl, World.ownsRow_nil _ _ _ _, Below.refl _ _⟩
    case round =>
      obtain ⟨k, hk, rfl, hown, hb⟩ := hrel
      have hB := hb.size
      skip
      have hbw := b1.trans (hb.mono (by omega))
      have t1 := (hb.cell (p := ⟨w.heap.size, 1, none⟩) (by simp only; omega)).trans T1.out
      by_cases hlt : k < ts.length
      · obtain ⟨b, o, rfl, hbl, hcell⟩ := (HC.out.ht.below hbw).open_ (by omega)
        have g0 := hcell k hlt
        have hst := listOf_step gs name true ts k hlt
        have hll := listOf_len gs name true (ts.take k)
        have hxl : (listOf gs name true (ts.take k)).length ≤ 6252500 := Nat.le_trans hll (Nat.le_trans (Nat.mul_le_mul (show (ts.take k).length ≤ 2500 by rw [List.length_take]; omega) (show 1 + gs.length ≤ 2501 by omega)) (by omega))
        clear hcell hll
        generalize listOf gs name true (ts.take k) = xs at *
        generalize ts.getD k [] = x at *
        have HST := hid hst
        clear hst
        have HO := hid hown
        clear hown
        go_wp2_with (at_builtin; refine list_append_own rfl (.tmp 36) (.tmp 39) 28 rfl W1.heap.size 83 (.agg #[.string ⟨#[]⟩, .string ⟨#[]⟩]) 2 32 Tryz.underlying28 infoPair rfl (by decide) _ xs.length (pairCells xs) rfl (HO.out.alloc _) ⟨wr.heap.size, 0, none⟩ 1 1 [.string ⟨#[84, 97, 114, 103, 101, 116, 78, 97, 109, 101]⟩, .string (bs x)] rfl rfl (cell_two_new _ _ _ _) (by simp [Value.oneCell']) (by unfold maxLen; omega) (by omega) (by simp; omega) ?_; intro v' w3 hown3 hgrow _; have hb3 : Below W1.heap.size W1 w3 := (hb.alloc (by omega) _).grown hgrow (by simp; omega) (fun g hg => (HO.out.lt g hg).1); have t1 := (hb3.cell (p := ⟨w.heap.size, 1, none⟩) hpw).trans T1.out)
        have hown4 : w3.ownsRow W1.heap.size 83 2 v' (xs ++ [(tgtKey, x)]).length (pairCells (xs ++ [(tgtKey, x)])) := by rw [pairCells_snoc, List.length_append]; exact hown3
        have hxl2 : (xs ++ [(tgtKey, x)]).length ≤ 6252501 := by simp; omega
        have HST2 := hid (show ((xs ++ [(tgtKey, x)]) ++ gs.map adrOf) = listOf gs name true (ts.take (k + 1)) by rw [HST.out, if_pos (by simp)]; simp)
        have HO4 := hid hown4
        have hz3 := hb3.size
        have hbw3 := b1.trans (hb3.mono (by omega))
        have T1n := hid ((hb3.cell (p := ⟨w.heap.size, 1, none⟩) hpw).trans T1.out)
        have t1 := T1n.out
        generalize (xs ++ [(tgtKey, x)]) = ys at *
        clear hown3 hown4 hgrow HO HST hb hbw hB g0 hxl
        go_wp2
        go_loopw [8, 44] (fun o i wr => RL2 gs ys W1.heap.size w3 o i wr) (fun _ i _ => gs.length - (intOf i).toNat)
        case atStart => exact ⟨0, by omega, rfl, by simpa using HO4.out, Below.refl _ _⟩
        case round =>
          obtain ⟨j, hj, rfl, hown, hc⟩ := hrel
          have hC := hc.size
          have hcw := hbw3.trans (hc.mono (by omega))
          by_cases hjl : j < gs.length
          · obtain ⟨_, b2, o2, c2, hveq, hbl2, hcell⟩ := (HC.out.hg.below hcw).open_.resolve_left (by rintro ⟨rfl, _⟩; simp at hjl)
            cases hveq
            obtain ⟨g0, g1⟩ := hcell j hjl
            have hx1 := HC.out.gl j hjl
            have hx2 := HC.out.capT j
            have hst := map_step gs j hjl
            have hyl : (ys ++ (gs.take j).map adrOf).length ≤ 6255001 := by rw [List.length_append, List.length_map, List.length_take]; omega
            clear hcell
            generalize gs.getD j ([], 0) = g at *
            obtain ⟨y1, y2⟩ := g
            have HST3 := hid (show (ys ++ (gs.take j).map adrOf) ++ [adrOf (y1, y2)] = ys ++ (gs.take (j + 1)).map adrOf by rw [hst]; simp)
            clear hst
            simp only at hx1 hx2 g0 g1
            generalize ys ++ (gs.take j).map adrOf = zs at *
            obtain ⟨W6, hW6⟩ : ∃ W6, wr.alloc (.cells #[.string (bs y1), .int .i64 y2] 122) = W6 := ⟨_, rfl⟩
            have hA6 : Below wr.heap.size wr W6 := by rw [← hW6]; exact (Below.refl _ _).alloc (Nat.le_refl _) _
            have b6 := hcw.trans (hA6.mono hcw.size)
            have p0 : W6.cell? ⟨wr.heap.size, 0, none⟩ = some (.string (bs y1)) := by rw [← hW6]; simp
            have p1 : W6.cell? ⟨wr.heap.size, 1, none⟩ = some (.int .i64 y2) := by rw [← hW6]; simp
            have hlt6 : wr.heap.size < W6.heap.size := by rw [← hW6]; simp
            have HO6 := hid (owns_below hown hA6)
            have HOw := hid hown
            have hlim := Lib.itoa_length_le y2 hx2.1 hx2.2
            have d3 : ∀ w' : World, (w'.cell? ⟨wr.heap.size, 0, none⟩ = some (.string (bs y1)) ∧ w'.cell? ⟨wr.heap.size, 1, none⟩ = some (.int .i64 y2) ∧ Below W6.heap.size W6 w') →
                Hid (Calls Tryz.prog 86 #[.int .i64 y2] w' fun e w'' => e = .returned (.string (bs (Lib.itoa y2))) ∧ w''.cell? ⟨wr.heap.size, 0, none⟩ = some (.string (bs y1)) ∧ w''.cell? ⟨wr.heap.size, 1, none⟩ = some (.int .i64 y2) ∧ Below W6.heap.size W6 w'') := by
              intro w' ⟨h0, h1, h2⟩
              refine hid ((itoa_any y2 hx2.1 hx2.2 w' (hP.below (b6.trans (h2.mono b6.size)) (Nat.le_refl _))).mono ?_)
              rintro e w'' ⟨rfl, hq⟩
              have hl := Nat.lt_of_lt_of_le hlt6 h2.size
              exact ⟨rfl, (hq.cell (p := ⟨wr.heap.size, 0, none⟩) hl).trans h0, (hq.cell (p := ⟨wr.heap.size, 1, none⟩) hl).trans h1, h2.trans (hq.mono h2.size)⟩
            have hd : Below W6.heap.size W6 W6.drew := (Below.refl _ _).drew
            have HA6 := hid hA6
            have hb6z : W1.heap.size ≤ W6.heap.size := by have := hA6.size; omega
            have HAD := hid (show adrOf (y1, y2) = (adrKey, y1 ++ [44] ++ Lib.itoa y2) from rfl)
            have HCC := hid hc
            have HBX := hid hcw
            generalize Lib.itoa y2 = it at *
            have hc1 : ¬ 9223372036854775807 < y1.length + 1 := by omega
            have hc2 : ¬ 9223372036854775807 < y1.length + 1 + it.length := by omega
            clear hown hA6 hc hcw b6
            go_wp2_with fail
            go_region_held3 (fun w' => w'.cell? ⟨wr.heap.size, 0, none⟩ = some (.string (bs y1)) ∧ w'.cell? ⟨wr.heap.size, 1, none⟩ = some (.int .i64 y2))
              (first | exact ⟨by assumption, by assumption⟩ | go_keep | exact ⟨(append_far HOw.out hgrow ⟨wr.heap.size, 0, none⟩ (Nat.le_refl _) (by have := k2.size; simp; omega)).trans (by simp [*]), (append_far HOw.out hgrow ⟨wr.heap.size, 1, none⟩ (Nat.le_refl _) (by have := k2.size; simp; omega)).trans (by simp [*])⟩)
              (first
                | (go_at_call 86; refine (d3 _ ?_).out.mono ?_; (first | exact ⟨by assumption, by assumption, by assumption⟩ | exact ⟨by simp [*], by simp [*], hd⟩); rintro e w7 ⟨rfl, k0, k1, k2⟩)
                | (refine step_append_own rfl (.tmp 48) (.tmp 57) 28 (by rfl) W1.heap.size 83 (.agg #[.string ⟨#[]⟩, .string ⟨#[]⟩]) 2 32 Tryz.underlying28 infoPair rfl (by decide) u8 zs.length (pairCells zs) (by simp [Act.eval]) ((owns_below HO6.out k2).alloc _) ⟨w7.heap.size, 0, none⟩ 1 1 [.string ⟨#[84, 97, 114, 103, 101, 116, 65, 100, 100, 114, 101, 115, 115]⟩, .string (bs (y1 ++ [44] ++ it))] (by simp [Act.eval]) rfl (cell_two_new _ _ _ _) (by simp [Value.oneCell']) (by unfold maxLen; omega) (by omega) (by have := k2.size; simp; omega) ?_; intro v' w8 hown8 hgrow _))
            all_goals
              have q1 : Below W1.heap.size w3 w7 := (HCC.out.trans (HA6.out.mono (by omega))).trans (k2.mono hb6z)
              have q1z := q1.size
              have q3 : Below W1.heap.size w3 w8 := (q1.alloc (by omega) _).grown hgrow (by simp; omega) (fun g hg => (HO6.out.lt g hg).1)
              have hown9 : w8.ownsRow W1.heap.size 83 2 v' (ys ++ (gs.take (j + 1)).map adrOf).length (pairCells (ys ++ (gs.take (j + 1)).map adrOf)) := by
                rw [← HST3.out, HAD.out, pairCells_snoc, List.length_append]
                exact hown8
              clear hown8 hgrow q1 k2 k0 k1 d3 p0 p1
              go_wp2
              exact ⟨⟨j + 1, by omega, by go_num, hown9, q3⟩, by simp [intOf]; omega⟩
          · obtain rfl : j = gs.length := by omega
            rw [List.take_length, HST2.out] at hown
            have hcb := hb3.trans hc
            clear hc hcw
            go_wp2
            exact ⟨⟨k + 1, by omega, by go_num, hown, hcb⟩, by simp [intOf]; omega⟩
      · obtain rfl : k = ts.length := by omega
        rw [List.take_length] at hown
        have hlt2 : ¬ ((ts.length : Int) < (ts.length : Int)) := by omega
        clear hk hB hlt
        go_wp2
        go_ret2
        exact ⟨⟨_, rfl, owns_base hown b1.size⟩, hbw⟩
  | false =>
    cases hc : ts.contains name with
    | false =>
      have HL := hid (listOf_none gs name ts hc)
      rw [hc] at ch
      clear C
      go_enter Tryz.func139, Tryz.ntmps139
      go_wp2_with fail
      refine (ch _ b1).out.mono ?_
      rintro e w2 ⟨rfl, hb2⟩
      go_wp2
      go_ret2
      refine ⟨⟨_, rfl, ?_⟩, b1.trans (hb2.mono b1.size)⟩
      rw [HL.out]
      exact World.ownsRow_nil _ _ _ _
    | true =>
      rw [hc] at ch
      clear C
      go_enter Tryz.func139, Tryz.ntmps139
      go_wp2_with fail
      refine (ch _ b1).out.mono ?_
      rintro e w2 ⟨rfl, hb2⟩
      have b2 := b1.trans (hb2.mono b1.size)
      have T0 := hid ((hb2.cell (p := ⟨w.heap.size, 0, none⟩) hpw).trans t0)
      have T1 := hid ((hb2.cell (p := ⟨w.heap.size, 1, none⟩) hpw).trans t1)
      clear t0 t1 t2 t3 t4 t5 t6
      have t0 := T0.out
      go_wp2
      clear t0
      go_loopw [8, 25] (fun o i wr => RL1 gs name false ts W1.heap.size w2 o i wr) (fun _ i _ => ts.length - (intOf i).toNat)
      case atStart => exact ⟨0, by omega, rfl, World.ownsRow_nil _ _ _ _, Below.refl _ _⟩
      case round =>
        obtain ⟨k, hk, rfl, hown, hb⟩ := hrel
        have hB := hb.size
        have hWz := hb2.size
        have hbw := b2.trans (hb.mono (by omega))
        have t1 := (hb.cell (p := ⟨w.heap.size, 1, none⟩) (by simp only; omega)).trans T1.out
        by_cases hlt : k < ts.length
        · obtain ⟨b, o, rfl, hbl, hcell⟩ := (HC.out.ht.below hbw).open_ (by omega)
          have g0 := hcell k hlt
          have hst := listOf_step gs name false ts k hlt
          have hll := listOf_len gs name false (ts.take k)
          have hxl : (listOf gs name false (ts.take k)).length ≤ 6252500 := Nat.le_trans hll (Nat.le_trans (Nat.mul_le_mul (show (ts.take k).length ≤ 2500 by rw [List.length_take]; omega) (show 1 + gs.length ≤ 2501 by omega)) (by omega))
          clear hcell hll
          generalize listOf gs name false (ts.take k) = xs at *
          generalize ts.getD k [] = x at *
          by_cases hxn : x = name
          · have hnx : (x == name) = true := beq_iff_eq.2 hxn
            rw [hnx] at hst
            have hneq : (x == name) = true := hnx
            clear hxn
            have HST := hid hst
            clear hst
            have HO := hid hown
            clear hown
            go_wp2_with (at_builtin; refine list_append_own rfl (.tmp 36) (.tmp 39) 28 rfl W1.heap.size 83 (.agg #[.string ⟨#[]⟩, .string ⟨#[]⟩]) 2 32 Tryz.underlying28 infoPair rfl (by decide) _ xs.length (pairCells xs) rfl (HO.out.alloc _) ⟨wr.heap.size, 0, none⟩ 1 1 [.string ⟨#[84, 97, 114, 103, 101, 116, 78, 97, 109, 101]⟩, .string (bs x)] rfl rfl (cell_two_new _ _ _ _) (by simp [Value.oneCell']) (by unfold maxLen; omega) (by omega) (by simp; omega) ?_; intro v' w3 hown3 hgrow _; have hb3 : Below W1.heap.size w2 w3 := (hb.alloc (by omega) _).grown hgrow (by simp; omega) (fun g hg => (HO.out.lt g hg).1); have t1 := (hb3.cell (p := ⟨w.heap.size, 1, none⟩) hpw).trans T1.out)
            have hown4 : w3.ownsRow W1.heap.size 83 2 v' (xs ++ [(tgtKey, x)]).length (pairCells (xs ++ [(tgtKey, x)])) := by rw [pairCells_snoc, List.length_append]; exact hown3
            have hxl2 : (xs ++ [(tgtKey, x)]).length ≤ 6252501 := by simp; omega
            have HST2 := hid (show ((xs ++ [(tgtKey, x)]) ++ gs.map adrOf) = listOf gs name false (ts.take (k + 1)) by rw [HST.out, if_pos (by simp)]; simp)
            have HO4 := hid hown4
            have hz3 := hb3.size
            have hbw3 := b2.trans (hb3.mono (by omega))
            have T1n := hid ((hb3.cell (p := ⟨w.heap.size, 1, none⟩) hpw).trans T1.out)
            have t1 := T1n.out
            generalize (xs ++ [(tgtKey, x)]) = ys at *
            clear hown3 hown4 hgrow HO HST hb hbw hB g0 hxl
            go_wp2
            go_loopw [8, 44] (fun o i wr => RL2 gs ys W1.heap.size w3 o i wr) (fun _ i _ => gs.length - (intOf i).toNat)
            case atStart => exact ⟨0, by omega, rfl, by simpa using HO4.out, Below.refl _ _⟩
            case round =>
              obtain ⟨j, hj, rfl, hown, hc⟩ := hrel
              have hC := hc.size
              have hcw := hbw3.trans (hc.mono (by omega))
              by_cases hjl : j < gs.length
              · obtain ⟨_, b2, o2, c2, hveq, hbl2, hcell⟩ := (HC.out.hg.below hcw).open_.resolve_left (by rintro ⟨rfl, _⟩; simp at hjl)
                cases hveq
                obtain ⟨g0, g1⟩ := hcell j hjl
                have hx1 := HC.out.gl j hjl
                have hx2 := HC.out.capT j
                have hst := map_step gs j hjl
                have hyl : (ys ++ (gs.take j).map adrOf).length ≤ 6255001 := by rw [List.length_append, List.length_map, List.length_take]; omega
                clear hcell
                generalize gs.getD j ([], 0) = g at *
                obtain ⟨y1, y2⟩ := g
                have HST3 := hid (show (ys ++ (gs.take j).map adrOf) ++ [adrOf (y1, y2)] = ys ++ (gs.take (j + 1)).map adrOf by rw [hst]; simp)
                clear hst
                simp only at hx1 hx2 g0 g1
                generalize ys ++ (gs.take j).map adrOf = zs at *
                obtain ⟨W6, hW6⟩ : ∃ W6, wr.alloc (.cells #[.string (bs y1), .int .i64 y2] 122) = W6 := ⟨_, rfl⟩
                have hA6 : Below wr.heap.size wr W6 := by rw [← hW6]; exact (Below.refl _ _).alloc (Nat.le_refl _) _
                have b6 := hcw.trans (hA6.mono hcw.size)
                have p0 : W6.cell? ⟨wr.heap.size, 0, none⟩ = some (.string (bs y1)) := by rw [← hW6]; simp
                have p1 : W6.cell? ⟨wr.heap.size, 1, none⟩ = some (.int .i64 y2) := by rw [← hW6]; simp
                have hlt6 : wr.heap.size < W6.heap.size := by rw [← hW6]; simp
                have HO6 := hid (owns_below hown hA6)
                have HOw := hid hown
                have hlim := Lib.itoa_length_le y2 hx2.1 hx2.2
                have d3 : ∀ w' : World, (w'.cell? ⟨wr.heap.size, 0, none⟩ = some (.string (bs y1)) ∧ w'.cell? ⟨wr.heap.size, 1, none⟩ = some (.int .i64 y2) ∧ Below W6.heap.size W6 w') →
                    Hid (Calls Tryz.prog 86 #[.int .i64 y2] w' fun e w'' => e = .returned (.string (bs (Lib.itoa y2))) ∧ w''.cell? ⟨wr.heap.size, 0, none⟩ = some (.string (bs y1)) ∧ w''.cell? ⟨wr.heap.size, 1, none⟩ = some (.int .i64 y2) ∧ Below W6.heap.size W6 w'') := by
                  intro w' ⟨h0, h1, h2⟩
                  refine hid ((itoa_any y2 hx2.1 hx2.2 w' (hP.below (b6.trans (h2.mono b6.size)) (Nat.le_refl _))).mono ?_)
                  rintro e w'' ⟨rfl, hq⟩
                  have hl := Nat.lt_of_lt_of_le hlt6 h2.size
                  exact ⟨rfl, (hq.cell (p := ⟨wr.heap.size, 0, none⟩) hl).trans h0, (hq.cell (p := ⟨wr.heap.size, 1, none⟩) hl).trans h1, h2.trans (hq.mono h2.size)⟩
                have hd : Below W6.heap.size W6 W6.drew := (Below.refl _ _).drew
                have HA6 := hid hA6
                have hb6z : W1.heap.size ≤ W6.heap.size := by have := hA6.size; omega
                have HAD := hid (show adrOf (y1, y2) = (adrKey, y1 ++ [44] ++ Lib.itoa y2) from rfl)
                have HCC := hid hc
                have HBX := hid hcw
                generalize Lib.itoa y2 = it at *
                have hc1 : ¬ 9223372036854775807 < y1.length + 1 := by omega
                have hc2 : ¬ 9223372036854775807 < y1.length + 1 + it.length := by omega
                clear hown hA6 hc hcw b6
                go_wp2_with fail
                go_region_held3 (fun w' => w'.cell? ⟨wr.heap.size, 0, none⟩ = some (.string (bs y1)) ∧ w'.cell? ⟨wr.heap.size, 1, none⟩ = some (.int .i64 y2))
                  (first | exact ⟨by assumption, by assumption⟩ | go_keep | exact ⟨(append_far HOw.out hgrow ⟨wr.heap.size, 0, none⟩ (Nat.le_refl _) (by have := k2.size; simp; omega)).trans (by simp [*]), (append_far HOw.out hgrow ⟨wr.heap.size, 1, none⟩ (Nat.le_refl _) (by have := k2.size; simp; omega)).trans (by simp [*])⟩)
                  (first
                    | (go_at_call 86; refine (d3 _ ?_).out.mono ?_; (first | exact ⟨by assumption, by assumption, by assumption⟩ | exact ⟨by simp [*], by simp [*], hd⟩); rintro e w7 ⟨rfl, k0, k1, k2⟩)
                    | (refine step_append_own rfl (.tmp 48) (.tmp 57) 28 (by rfl) W1.heap.size 83 (.agg #[.string ⟨#[]⟩, .string ⟨#[]⟩]) 2 32 Tryz.underlying28 infoPair rfl (by decide) u8 zs.length (pairCells zs) (by simp [Act.eval]) ((owns_below HO6.out k2).alloc _) ⟨w7.heap.size, 0, none⟩ 1 1 [.string ⟨#[84, 97, 114, 103, 101, 116, 65, 100, 100, 114, 101, 115, 115]⟩, .string (bs (y1 ++ [44] ++ it))] (by simp [Act.eval]) rfl (cell_two_new _ _ _ _) (by simp [Value.oneCell']) (by unfold maxLen; omega) (by omega) (by have := k2.size; simp; omega) ?_; intro v' w8 hown8 hgrow _))
                all_goals
                  have q1 : Below W1.heap.size w3 w7 := (HCC.out.trans (HA6.out.mono (by omega))).trans (k2.mono hb6z)
                  have q1z := q1.size
                  have q3 : Below W1.heap.size w3 w8 := (q1.alloc (by omega) _).grown hgrow (by simp; omega) (fun g hg => (HO6.out.lt g hg).1)
                  have hown9 : w8.ownsRow W1.heap.size 83 2 v' (ys ++ (gs.take (j + 1)).map adrOf).length (pairCells (ys ++ (gs.take (j + 1)).map adrOf)) := by
                    rw [← HST3.out, HAD.out, pairCells_snoc, List.length_append]
                    exact hown8
                  clear hown8 hgrow q1 k2 k0 k1 d3 p0 p1
                  go_wp2
                  exact ⟨⟨j + 1, by omega, by go_num, hown9, q3⟩, by simp [intOf]; omega⟩
              · obtain rfl : j = gs.length := by omega
                rw [List.take_length, HST2.out] at hown
                have hcb := hb3.trans hc
                clear hc hcw
                go_wp2
                exact ⟨⟨k + 1, by omega, by go_num, hown, hcb⟩, by simp [intOf]; omega⟩
          · have hnx : (x == name) = false := beq_eq_false_iff_ne.2 hxn
            rw [hnx] at hst
            have HST := hid (show listOf gs name false (ts.take (k + 1)) = xs by rw [hst]; simp)
            clear hst hxn
            go_wp2
            exact ⟨⟨k + 1, by omega, by go_num, by rw [HST.out]; exact hown, hb⟩, by simp [intOf]; omega⟩
        · obtain rfl : k = ts.length := by omega
          rw [List.take_length] at hown
          have hlt2 : ¬ ((ts.length : Int) < (ts.length : Int)) := by omega
          clear hk hB hlt
          go_wp2
          go_ret2
          exact ⟨⟨_, rfl, owns_base hown b1.size⟩, hbw⟩
set_option maxHeartbeats 16000000 in
theorem targets_any_t : Calls Tryz.prog 56 #[confV (.slice ta ts.length tc) (.slice ga gs.length gc) (.slice ua us.length uc) (.slice oa own.length oc) sn ss lim, .string (bs name), .bool all] w fun e w' =>
    (∃ v, e = .returned (.tuple #[v, .int .i64 ((if all = false ∧ ts.contains name = false then 8 else 0 : Nat) : Int)]) ∧ w'.ownsRow w.heap.size 83 2 v (listOf gs name all ts).length (pairCells (listOf gs name all ts))) ∧ Below w.heap.size w w' := by
  obtain ⟨W1, hW1⟩ : ∃ W1, w.alloc (.cells #[.slice ta ts.length tc, .slice ga gs.length gc, .slice ua us.length uc, .string (bs sn), .string (bs ss), .int .i64 lim, .slice oa own.length oc] 30) = W1 := ⟨_, rfl⟩
  have b1 : Below w.heap.size w W1 := by rw [← hW1]; exact (Below.refl _ _).alloc (Nat.le_refl _) _
  have t0 : W1.cell? ⟨w.heap.size, 0, none⟩ = some (.slice ta ts.length tc) := by rw [← hW1]; simp
  have t1 : W1.cell? ⟨w.heap.size, 1, none⟩ = some (.slice ga gs.length gc) := by rw [← hW1]; simp
  have t2 : W1.cell? ⟨w.heap.size, 2, none⟩ = some (.slice ua us.length uc) := by rw [← hW1]; simp
  have t3 : W1.cell? ⟨w.heap.size, 3, none⟩ = some (.string (bs sn)) := by rw [← hW1]; simp
  have t4 : W1.cell? ⟨w.heap.size, 4, none⟩ = some (.string (bs ss)) := by rw [← hW1]; simp
  have t5 : W1.cell? ⟨w.heap.size, 5, none⟩ = some (.int .i64 lim) := by rw [← hW1]; simp
  have t6 : W1.cell? ⟨w.heap.size, 6, none⟩ = some (.slice oa own.length oc) := by rw [← hW1]; simp
  have z1 : W1.heap.size = w.heap.size + 1 := by rw [← hW1]; simp
  have tn := C.tn
  have gn := C.gn
  have HC := hid C
  unfold confV
  have hpw : w.heap.size < W1.heap.size := by omega
  cases all with
  | true =>
    clear C
    go_enter Tryz.func56, Tryz.ntmps56
    have T0 := hid t0
    have T1 := hid t1
    clear t0 t1 t2 t3 t4 t5 t6
    have t0 := T0.out
    go_wp2
    clear t0
    go_loopw [8, 9, 17] (fun o b i wr => RL1R gs name true ts W1.heap.size W1 o b i wr) (fun _ _ i _ => ts.length - (intOf i).toNat)
    case atStart => exact ⟨0, by omega, rfl, rfl, World.ownsRow_nil _ _ _ _, Below.refl _ _⟩
    case round =>
      obtain ⟨k, hk, rfl, rfl, hown, hb⟩ := hrel
      have hB := hb.size
      skip
      have hbw := b1.trans (hb.mono (by omega))
      have t1 := (hb.cell (p := ⟨w.heap.size, 1, none⟩) (by simp only; omega)).trans T1.out
      by_cases hlt : k < ts.length
      · obtain ⟨b, o, rfl, hbl, hcell⟩ := (HC.out.ht.below hbw).open_ (by omega)
        have g0 := hcell k hlt
        have hst := listOf_step gs name true ts k hlt
        have HIS := hid (isAny_step name true ts k hlt)
        have hll := listOf_len gs name true (ts.take k)
        have hxl : (listOf gs name true (ts.take k)).length ≤ 6252500 := Nat.le_trans hll (Nat.le_trans (Nat.mul_le_mul (show (ts.take k).length ≤ 2500 by rw [List.length_take]; omega) (show 1 + gs.length ≤ 2501 by omega)) (by omega))
        clear hcell hll
        generalize listOf gs name true (ts.take k) = xs at *
        generalize ts.getD k [] = x at *
        have HST := hid hst
        clear hst
        have HO := hid hown
        clear hown
        generalize isAny name true (ts.take k) = ia at *
        go_wp2_with (at_builtin; refine list_append_own rfl (.tmp 27) (.tmp 30) 28 rfl W1.heap.size 83 (.agg #[.string ⟨#[]⟩, .string ⟨#[]⟩]) 2 32 Tryz.underlying28 infoPair rfl (by decide) _ xs.length (pairCells xs) rfl (HO.out.alloc _) ⟨wr.heap.size, 0, none⟩ 1 1 [.string ⟨#[84, 97, 114, 103, 101, 116, 78, 97, 109, 101]⟩, .string (bs x)] rfl rfl (cell_two_new _ _ _ _) (by simp [Value.oneCell']) (by unfold maxLen; omega) (by omega) (by simp; omega) ?_; intro v' w3 hown3 hgrow _; have hb3 : Below W1.heap.size W1 w3 := (hb.alloc (by omega) _).grown hgrow (by simp; omega) (fun g hg => (HO.out.lt g hg).1); have t1 := (hb3.cell (p := ⟨w.heap.size, 1, none⟩) hpw).trans T1.out)
        have hown4 : w3.ownsRow W1.heap.size 83 2 v' (xs ++ [(tgtKey, x)]).length (pairCells (xs ++ [(tgtKey, x)])) := by rw [pairCells_snoc, List.length_append]; exact hown3
        have hxl2 : (xs ++ [(tgtKey, x)]).length ≤ 6252501 := by simp; omega
        have HST2 := hid (show ((xs ++ [(tgtKey, x)]) ++ gs.map adrOf) = listOf gs name true (ts.take (k + 1)) by rw [HST.out, if_pos (by simp)]; simp)
        have HO4 := hid hown4
        have hz3 := hb3.size
        have hbw3 := b1.trans (hb3.mono (by omega))
        have T1n := hid ((hb3.cell (p := ⟨w.heap.size, 1, none⟩) hpw).trans T1.out)
        have t1 := T1n.out
        generalize (xs ++ [(tgtKey, x)]) = ys at *
        clear hown3 hown4 hgrow HO HST hb hbw hB g0 hxl
        go_wp2
        go_loopw [8, 35] (fun o i wr => RL2 gs ys W1.heap.size w3 o i wr) (fun _ i _ => gs.length - (intOf i).toNat)
        case atStart => exact ⟨0, by omega, rfl, by simpa using HO4.out, Below.refl _ _⟩
        case round =>
          obtain ⟨j, hj, rfl, hown, hc⟩ := hrel
          have hC := hc.size
          have hcw := hbw3.trans (hc.mono (by omega))
          by_cases hjl : j < gs.length
          · obtain ⟨_, b2, o2, c2, hveq, hbl2, hcell⟩ := (HC.out.hg.below hcw).open_.resolve_left (by rintro ⟨rfl, _⟩; simp at hjl)
            cases hveq
            obtain ⟨g0, g1⟩ := hcell j hjl
            have hx1 := HC.out.gl j hjl
            have hx2 := HC.out.capT j
            have hst := map_step gs j hjl
            have hyl : (ys ++ (gs.take j).map adrOf).length ≤ 6255001 := by rw [List.length_append, List.length_map, List.length_take]; omega
            clear hcell
            generalize gs.getD j ([], 0) = g at *
            obtain ⟨y1, y2⟩ := g
            have HST3 := hid (show (ys ++ (gs.take j).map adrOf) ++ [adrOf (y1, y2)] = ys ++ (gs.take (j + 1)).map adrOf by rw [hst]; simp)
            clear hst
            simp only at hx1 hx2 g0 g1
            generalize ys ++ (gs.take j).map adrOf = zs at *
            obtain ⟨W6, hW6⟩ : ∃ W6, wr.alloc (.cells #[.string (bs y1), .int .i64 y2] 122) = W6 := ⟨_, rfl⟩
            have hA6 : Below wr.heap.size wr W6 := by rw [← hW6]; exact (Below.refl _ _).alloc (Nat.le_refl _) _
            have b6 := hcw.trans (hA6.mono hcw.size)
            have p0 : W6.cell? ⟨wr.heap.size, 0, none⟩ = some (.string (bs y1)) := by rw [← hW6]; simp
            have p1 : W6.cell? ⟨wr.heap.size, 1, none⟩ = some (.int .i64 y2) := by rw [← hW6]; simp
            have hlt6 : wr.heap.size < W6.heap.size := by rw [← hW6]; simp
            have HO6 := hid (owns_below hown hA6)
            have HOw := hid hown
            have hlim := Lib.itoa_length_le y2 hx2.1 hx2.2
            have d3 : ∀ w' : World, (w'.cell? ⟨wr.heap.size, 0, none⟩ = some (.string (bs y1)) ∧ w'.cell? ⟨wr.heap.size, 1, none⟩ = some (.int .i64 y2) ∧ Below W6.heap.size W6 w') →
                Hid (Calls Tryz.prog 86 #[.int .i64 y2] w' fun e w'' => e = .returned (.string (bs (Lib.itoa y2))) ∧ w''.cell? ⟨wr.heap.size, 0, none⟩ = some (.string (bs y1)) ∧ w''.cell? ⟨wr.heap.size, 1, none⟩ = some (.int .i64 y2) ∧ Below W6.heap.size W6 w'') := by
              intro w' ⟨h0, h1, h2⟩
              refine hid ((itoa_any y2 hx2.1 hx2.2 w' (hP.below (b6.trans (h2.mono b6.size)) (Nat.le_refl _))).mono ?_)
              rintro e w'' ⟨rfl, hq⟩
              have hl := Nat.lt_of_lt_of_le hlt6 h2.size
              exact ⟨rfl, (hq.cell (p := ⟨wr.heap.size, 0, none⟩) hl).trans h0, (hq.cell (p := ⟨wr.heap.size, 1, none⟩) hl).trans h1, h2.trans (hq.mono h2.size)⟩
            have hd : Below W6.heap.size W6 W6.drew := (Below.refl _ _).drew
            have HA6 := hid hA6
            have hb6z : W1.heap.size ≤ W6.heap.size := by have := hA6.size; omega
            have HAD := hid (show adrOf (y1, y2) = (adrKey, y1 ++ [44] ++ Lib.itoa y2) from rfl)
            have HCC := hid hc
            have HBX := hid hcw
            generalize Lib.itoa y2 = it at *
            have hc1 : ¬ 9223372036854775807 < y1.length + 1 := by omega
            have hc2 : ¬ 9223372036854775807 < y1.length + 1 + it.length := by omega
            clear hown hA6 hc hcw b6
            go_wp2_with fail
            go_region_held3 (fun w' => w'.cell? ⟨wr.heap.size, 0, none⟩ = some (.string (bs y1)) ∧ w'.cell? ⟨wr.heap.size, 1, none⟩ = some (.int .i64 y2))
              (first | exact ⟨by assumption, by assumption⟩ | go_keep | exact ⟨(append_far HOw.out hgrow ⟨wr.heap.size, 0, none⟩ (Nat.le_refl _) (by have := k2.size; simp; omega)).trans (by simp [*]), (append_far HOw.out hgrow ⟨wr.heap.size, 1, none⟩ (Nat.le_refl _) (by have := k2.size; simp; omega)).trans (by simp [*])⟩)
              (first
                | (go_at_call 86; refine (d3 _ ?_).out.mono ?_; (first | exact ⟨by assumption, by assumption, by assumption⟩ | exact ⟨by simp [*], by simp [*], hd⟩); rintro e w7 ⟨rfl, k0, k1, k2⟩)
                | (refine step_append_own rfl (.tmp 39) (.tmp 48) 28 (by rfl) W1.heap.size 83 (.agg #[.string ⟨#[]⟩, .string ⟨#[]⟩]) 2 32 Tryz.underlying28 infoPair rfl (by decide) u8 zs.length (pairCells zs) (by simp [Act.eval]) ((owns_below HO6.out k2).alloc _) ⟨w7.heap.size, 0, none⟩ 1 1 [.string ⟨#[84, 97, 114, 103, 101, 116, 65, 100, 100, 114, 101, 115, 115]⟩, .string (bs (y1 ++ [44] ++ it))] (by simp [Act.eval]) rfl (cell_two_new _ _ _ _) (by simp [Value.oneCell']) (by unfold maxLen; omega) (by omega) (by have := k2.size; simp; omega) ?_; intro v' w8 hown8 hgrow _))
            all_goals
              have q1 : Below W1.heap.size w3 w7 := (HCC.out.trans (HA6.out.mono (by omega))).trans (k2.mono hb6z)
              have q1z := q1.size
              have q3 : Below W1.heap.size w3 w8 := (q1.alloc (by omega) _).grown hgrow (by simp; omega) (fun g hg => (HO6.out.lt g hg).1)
              have hown9 : w8.ownsRow W1.heap.size 83 2 v' (ys ++ (gs.take (j + 1)).map adrOf).length (pairCells (ys ++ (gs.take (j + 1)).map adrOf)) := by
                rw [← HST3.out, HAD.out, pairCells_snoc, List.length_append]
                exact hown8
              clear hown8 hgrow q1 k2 k0 k1 d3 p0 p1
              go_wp2
              exact ⟨⟨j + 1, by omega, by go_num, hown9, q3⟩, by simp [intOf]; omega⟩
          · obtain rfl : j = gs.length := by omega
            rw [List.take_length, HST2.out] at hown
            have hcb := hb3.trans hc
            clear hc hcw
            go_wp2
            exact ⟨⟨k + 1, by omega, by go_num, by rw [HIS.out]; simp, hown, hcb⟩, by simp [intOf]; omega⟩
      · obtain rfl : k = ts.length := by omega
        rw [List.take_length] at hown
        have hlt2 : ¬ ((ts.length : Int) < (ts.length : Int)) := by omega
        clear hk hB hlt
        rw [List.take_length]
        generalize isAny name true ts = q
        cases q with
        | true =>
          go_wp2
          go_ret2
          exact ⟨⟨_, rfl, owns_base hown b1.size⟩, hbw⟩
        | false =>
          go_wp2
          go_ret2
          exact ⟨⟨_, rfl, owns_base hown b1.size⟩, hbw⟩
  | false =>
    cases hc : ts.contains name with
    | false =>
      have HL := hid (listOf_none gs name ts hc)
      have HISF := hid (show isAny name false ts = false by rw [isAny_false, hc])
      clear C hc
      go_enter Tryz.func56, Tryz.ntmps56
      have T0 := hid t0
      have T1 := hid t1
      clear t0 t1 t2 t3 t4 t5 t6
      have t0 := T0.out
      go_wp2
      clear t0
      go_loopw [8, 9, 17] (fun o b i wr => RL1R gs name false ts W1.heap.size W1 o b i wr) (fun _ _ i _ => ts.length - (intOf i).toNat)
      case atStart => exact ⟨0, by omega, rfl, rfl, World.ownsRow_nil _ _ _ _, Below.refl _ _⟩
      case round =>
        obtain ⟨k, hk, rfl, rfl, hown, hb⟩ := hrel
        have hB := hb.size
        skip
        have hbw := b1.trans (hb.mono (by omega))
        have t1 := (hb.cell (p := ⟨w.heap.size, 1, none⟩) (by simp only; omega)).trans T1.out
        by_cases hlt : k < ts.length
        · obtain ⟨b, o, rfl, hbl, hcell⟩ := (HC.out.ht.below hbw).open_ (by omega)
          have g0 := hcell k hlt
          have hst := listOf_step gs name false ts k hlt
          have HIS := hid (isAny_step name false ts k hlt)
          have hll := listOf_len gs name false (ts.take k)
          have hxl : (listOf gs name false (ts.take k)).length ≤ 6252500 := Nat.le_trans hll (Nat.le_trans (Nat.mul_le_mul (show (ts.take k).length ≤ 2500 by rw [List.length_take]; omega) (show 1 + gs.length ≤ 2501 by omega)) (by omega))
          clear hcell hll
          generalize listOf gs name false (ts.take k) = xs at *
          generalize ts.getD k [] = x at *
          by_cases hxn : x = name
          · have hnx : (x == name) = true := beq_iff_eq.2 hxn
            rw [hnx] at hst
            rw [hnx] at HIS
            have hneq : (x == name) = true := hnx
            clear hxn
            have HST := hid hst
            clear hst
            have HO := hid hown
            clear hown
            generalize isAny name false (ts.take k) = ia at *
            go_wp2_with (at_builtin; refine list_append_own rfl (.tmp 27) (.tmp 30) 28 rfl W1.heap.size 83 (.agg #[.string ⟨#[]⟩, .string ⟨#[]⟩]) 2 32 Tryz.underlying28 infoPair rfl (by decide) _ xs.length (pairCells xs) rfl (HO.out.alloc _) ⟨wr.heap.size, 0, none⟩ 1 1 [.string ⟨#[84, 97, 114, 103, 101, 116, 78, 97, 109, 101]⟩, .string (bs x)] rfl rfl (cell_two_new _ _ _ _) (by simp [Value.oneCell']) (by unfold maxLen; omega) (by omega) (by simp; omega) ?_; intro v' w3 hown3 hgrow _; have hb3 : Below W1.heap.size W1 w3 := (hb.alloc (by omega) _).grown hgrow (by simp; omega) (fun g hg => (HO.out.lt g hg).1); have t1 := (hb3.cell (p := ⟨w.heap.size, 1, none⟩) hpw).trans T1.out)
            have hown4 : w3.ownsRow W1.heap.size 83 2 v' (xs ++ [(tgtKey, x)]).length (pairCells (xs ++ [(tgtKey, x)])) := by rw [pairCells_snoc, List.length_append]; exact hown3
            have hxl2 : (xs ++ [(tgtKey, x)]).length ≤ 6252501 := by simp; omega
            have HST2 := hid (show ((xs ++ [(tgtKey, x)]) ++ gs.map adrOf) = listOf gs name false (ts.take (k + 1)) by rw [HST.out, if_pos (by simp)]; simp)
            have HO4 := hid hown4
            have hz3 := hb3.size
            have hbw3 := b1.trans (hb3.mono (by omega))
            have T1n := hid ((hb3.cell (p := ⟨w.heap.size, 1, none⟩) hpw).trans T1.out)
            have t1 := T1n.out
            generalize (xs ++ [(tgtKey, x)]) = ys at *
            clear hown3 hown4 hgrow HO HST hb hbw hB g0 hxl
            go_wp2
            go_loopw [8, 35] (fun o i wr => RL2 gs ys W1.heap.size w3 o i wr) (fun _ i _ => gs.length - (intOf i).toNat)
            case atStart => exact ⟨0, by omega, rfl, by simpa using HO4.out, Below.refl _ _⟩
            case round =>
              obtain ⟨j, hj, rfl, hown, hc⟩ := hrel
              have hC := hc.size
              have hcw := hbw3.trans (hc.mono (by omega))
              by_cases hjl : j < gs.length
              · obtain ⟨_, b2, o2, c2, hveq, hbl2, hcell⟩ := (HC.out.hg.below hcw).open_.resolve_left (by rintro ⟨rfl, _⟩; simp at hjl)
                cases hveq
                obtain ⟨g0, g1⟩ := hcell j hjl
                have hx1 := HC.out.gl j hjl
                have hx2 := HC.out.capT j
                have hst := map_step gs j hjl
                have hyl : (ys ++ (gs.take j).map adrOf).length ≤ 6255001 := by rw [List.length_append, List.length_map, List.length_take]; omega
                clear hcell
                generalize gs.getD j ([], 0) = g at *
                obtain ⟨y1, y2⟩ := g
                have HST3 := hid (show (ys ++ (gs.take j).map adrOf) ++ [adrOf (y1, y2)] = ys ++ (gs.take (j + 1)).map adrOf by rw [hst]; simp)
                clear hst
                simp only at hx1 hx2 g0 g1
                generalize ys ++ (gs.take j).map adrOf = zs at *
                obtain ⟨W6, hW6⟩ : ∃ W6, wr.alloc (.cells #[.string (bs y1), .int .i64 y2] 122) = W6 := ⟨_, rfl⟩
                have hA6 : Below wr.heap.size wr W6 := by rw [← hW6]; exact (Below.refl _ _).alloc (Nat.le_refl _) _
                have b6 := hcw.trans (hA6.mono hcw.size)
                have p0 : W6.cell? ⟨wr.heap.size, 0, none⟩ = some (.string (bs y1)) := by rw [← hW6]; simp
                have p1 : W6.cell? ⟨wr.heap.size, 1, none⟩ = some (.int .i64 y2) := by rw [← hW6]; simp
                have hlt6 : wr.heap.size < W6.heap.size := by rw [← hW6]; simp
                have HO6 := hid (owns_below hown hA6)
                have HOw := hid hown
                have hlim := Lib.itoa_length_le y2 hx2.1 hx2.2
                have d3 : ∀ w' : World, (w'.cell? ⟨wr.heap.size, 0, none⟩ = some (.string (bs y1)) ∧ w'.cell? ⟨wr.heap.size, 1, none⟩ = some (.int .i64 y2) ∧ Below W6.heap.size W6 w') →
                    Hid (Calls Tryz.prog 86 #[.int .i64 y2] w' fun e w'' => e = .returned (.string (bs (Lib.itoa y2))) ∧ w''.cell? ⟨wr.heap.size, 0, none⟩ = some (.string (bs y1)) ∧ w''.cell? ⟨wr.heap.size, 1, none⟩ = some (.int .i64 y2) ∧ Below W6.heap.size W6 w'') := by
                  intro w' ⟨h0, h1, h2⟩
                  refine hid ((itoa_any y2 hx2.1 hx2.2 w' (hP.below (b6.trans (h2.mono b6.size)) (Nat.le_refl _))).mono ?_)
                  rintro e w'' ⟨rfl, hq⟩
                  have hl := Nat.lt_of_lt_of_le hlt6 h2.size
                  exact ⟨rfl, (hq.cell (p := ⟨wr.heap.size, 0, none⟩) hl).trans h0, (hq.cell (p := ⟨wr.heap.size, 1, none⟩) hl).trans h1, h2.trans (hq.mono h2.size)⟩
                have hd : Below W6.heap.size W6 W6.drew := (Below.refl _ _).drew
                have HA6 := hid hA6
                have hb6z : W1.heap.size ≤ W6.heap.size := by have := hA6.size; omega
                have HAD := hid (show adrOf (y1, y2) = (adrKey, y1 ++ [44] ++ Lib.itoa y2) from rfl)
                have HCC := hid hc
                have HBX := hid hcw
                generalize Lib.itoa y2 = it at *
                have hc1 : ¬ 9223372036854775807 < y1.length + 1 := by omega
                have hc2 : ¬ 9223372036854775807 < y1.length + 1 + it.length := by omega
                clear hown hA6 hc hcw b6
                go_wp2_with fail
                go_region_held3 (fun w' => w'.cell? ⟨wr.heap.size, 0, none⟩ = some (.string (bs y1)) ∧ w'.cell? ⟨wr.heap.size, 1, none⟩ = some (.int .i64 y2))
                  (first | exact ⟨by assumption, by assumption⟩ | go_keep | exact ⟨(append_far HOw.out hgrow ⟨wr.heap.size, 0, none⟩ (Nat.le_refl _) (by have := k2.size; simp; omega)).trans (by simp [*]), (append_far HOw.out hgrow ⟨wr.heap.size, 1, none⟩ (Nat.le_refl _) (by have := k2.size; simp; omega)).trans (by simp [*])⟩)
                  (first
                    | (go_at_call 86; refine (d3 _ ?_).out.mono ?_; (first | exact ⟨by assumption, by assumption, by assumption⟩ | exact ⟨by simp [*], by simp [*], hd⟩); rintro e w7 ⟨rfl, k0, k1, k2⟩)
                    | (refine step_append_own rfl (.tmp 39) (.tmp 48) 28 (by rfl) W1.heap.size 83 (.agg #[.string ⟨#[]⟩, .string ⟨#[]⟩]) 2 32 Tryz.underlying28 infoPair rfl (by decide) u8 zs.length (pairCells zs) (by simp [Act.eval]) ((owns_below HO6.out k2).alloc _) ⟨w7.heap.size, 0, none⟩ 1 1 [.string ⟨#[84, 97, 114, 103, 101, 116, 65, 100, 100, 114, 101, 115, 115]⟩, .string (bs (y1 ++ [44] ++ it))] (by simp [Act.eval]) rfl (cell_two_new _ _ _ _) (by simp [Value.oneCell']) (by unfold maxLen; omega) (by omega) (by have := k2.size; simp; omega) ?_; intro v' w8 hown8 hgrow _))
                all_goals
                  have q1 : Below W1.heap.size w3 w7 := (HCC.out.trans (HA6.out.mono (by omega))).trans (k2.mono hb6z)
                  have q1z := q1.size
                  have q3 : Below W1.heap.size w3 w8 := (q1.alloc (by omega) _).grown hgrow (by simp; omega) (fun g hg => (HO6.out.lt g hg).1)
                  have hown9 : w8.ownsRow W1.heap.size 83 2 v' (ys ++ (gs.take (j + 1)).map adrOf).length (pairCells (ys ++ (gs.take (j + 1)).map adrOf)) := by
                    rw [← HST3.out, HAD.out, pairCells_snoc, List.length_append]
                    exact hown8
                  clear hown8 hgrow q1 k2 k0 k1 d3 p0 p1
                  go_wp2
                  exact ⟨⟨j + 1, by omega, by go_num, hown9, q3⟩, by simp [intOf]; omega⟩
              · obtain rfl : j = gs.length := by omega
                rw [List.take_length, HST2.out] at hown
                have hcb := hb3.trans hc
                clear hc hcw
                go_wp2
                exact ⟨⟨k + 1, by omega, by go_num, by rw [HIS.out]; simp, hown, hcb⟩, by simp [intOf]; omega⟩
          · have hnx : (x == name) = false := beq_eq_false_iff_ne.2 hxn
            rw [hnx] at hst
            rw [hnx] at HIS
            have HST := hid (show listOf gs name false (ts.take (k + 1)) = xs by rw [hst]; simp)
            clear hst hxn
            go_wp2
            exact ⟨⟨k + 1, by omega, by go_num, by rw [HIS.out]; simp, by rw [HST.out]; exact hown, hb⟩, by simp [intOf]; omega⟩
        · obtain rfl : k = ts.length := by omega
          rw [List.take_length] at hown
          have hlt2 : ¬ ((ts.length : Int) < (ts.length : Int)) := by omega
          clear hk hB hlt
          rw [List.take_length]
          rw [HISF.out]
          go_wp2
          go_ret2
          refine ⟨⟨_, rfl, ?_⟩, hbw⟩
          rw [HL.out]
          exact World.ownsRow_nil _ _ _ _
    | true =>
      have HISF := hid (show isAny name false ts = true by rw [isAny_false, hc])
      clear C hc
      go_enter Tryz.func56, Tryz.ntmps56
      have T0 := hid t0
      have T1 := hid t1
      clear t0 t1 t2 t3 t4 t5 t6
      have t0 := T0.out
      go_wp2
      clear t0
      go_loopw [8, 9, 17] (fun o b i wr => RL1R gs name false ts W1.heap.size W1 o b i wr) (fun _ _ i _ => ts.length - (intOf i).toNat)
      case atStart => exact ⟨0, by omega, rfl, rfl, World.ownsRow_nil _ _ _ _, Below.refl _ _⟩
      case round =>
        obtain ⟨k, hk, rfl, rfl, hown, hb⟩ := hrel
        have hB := hb.size
        skip
        have hbw := b1.trans (hb.mono (by omega))
        have t1 := (hb.cell (p := ⟨w.heap.size, 1, none⟩) (by simp only; omega)).trans T1.out
        by_cases hlt : k < ts.length
        · obtain ⟨b, o, rfl, hbl, hcell⟩ := (HC.out.ht.below hbw).open_ (by omega)
          have g0 := hcell k hlt
          have hst := listOf_step gs name false ts k hlt
          have HIS := hid (isAny_step name false ts k hlt)
          have hll := listOf_len gs name false (ts.take k)
          have hxl : (listOf gs name false (ts.take k)).length ≤ 6252500 := Nat.le_trans hll (Nat.le_trans (Nat.mul_le_mul (show (ts.take k).length ≤ 2500 by rw [List.length_take]; omega) (show 1 + gs.length ≤ 2501 by omega)) (by omega))
          clear hcell hll
          generalize listOf gs name false (ts.take k) = xs at *
          generalize ts.getD k [] = x at *
          by_cases hxn : x = name
          · have hnx : (x == name) = true := beq_iff_eq.2 hxn
            rw [hnx] at hst
            rw [hnx] at HIS
            have hneq : (x == name) = true := hnx
            clear hxn
            have HST := hid hst
            clear hst
            have HO := hid hown
            clear hown
            generalize isAny name false (ts.take k) = ia at *
            go_wp2_with (at_builtin; refine list_append_own rfl (.tmp 27) (.tmp 30) 28 rfl W1.heap.size 83 (.agg #[.string ⟨#[]⟩, .string ⟨#[]⟩]) 2 32 Tryz.underlying28 infoPair rfl (by decide) _ xs.length (pairCells xs) rfl (HO.out.alloc _) ⟨wr.heap.size, 0, none⟩ 1 1 [.string ⟨#[84, 97, 114, 103, 101, 116, 78, 97, 109, 101]⟩, .string (bs x)] rfl rfl (cell_two_new _ _ _ _) (by simp [Value.oneCell']) (by unfold maxLen; omega) (by omega) (by simp; omega) ?_; intro v' w3 hown3 hgrow _; have hb3 : Below W1.heap.size W1 w3 := (hb.alloc (by omega) _).grown hgrow (by simp; omega) (fun g hg => (HO.out.lt g hg).1); have t1 := (hb3.cell (p := ⟨w.heap.size, 1, none⟩) hpw).trans T1.out)
            have hown4 : w3.ownsRow W1.heap.size 83 2 v' (xs ++ [(tgtKey, x)]).length (pairCells (xs ++ [(tgtKey, x)])) := by rw [pairCells_snoc, List.length_append]; exact hown3
            have hxl2 : (xs ++ [(tgtKey, x)]).length ≤ 6252501 := by simp; omega
            have HST2 := hid (show ((xs ++ [(tgtKey, x)]) ++ gs.map adrOf) = listOf gs name false (ts.take (k + 1)) by rw [HST.out, if_pos (by simp)]; simp)
            have HO4 := hid hown4
            have hz3 := hb3.size
            have hbw3 := b1.trans (hb3.mono (by omega))
            have T1n := hid ((hb3.cell (p := ⟨w.heap.size, 1, none⟩) hpw).trans T1.out)
            have t1 := T1n.out
            generalize (xs ++ [(tgtKey, x)]) = ys at *
            clear hown3 hown4 hgrow HO HST hb hbw hB g0 hxl
            go_wp2
            go_loopw [8, 35] (fun o i wr => RL2 gs ys W1.heap.size w3 o i wr) (fun _ i _ => gs.length - (intOf i).toNat)
            case atStart => exact ⟨0, by omega, rfl, by simpa using HO4.out, Below.refl _ _⟩
            case round =>
              obtain ⟨j, hj, rfl, hown, hc⟩ := hrel
              have hC := hc.size
              have hcw := hbw3.trans (hc.mono (by omega))
              by_cases hjl : j < gs.length
              · obtain ⟨_, b2, o2, c2, hveq, hbl2, hcell⟩ := (HC.out.hg.below hcw).open_.resolve_left (by rintro ⟨rfl, _⟩; simp at hjl)
                cases hveq
                obtain ⟨g0, g1⟩ := hcell j hjl
                have hx1 := HC.out.gl j hjl
                have hx2 := HC.out.capT j
                have hst := map_step gs j hjl
                have hyl : (ys ++ (gs.take j).map adrOf).length ≤ 6255001 := by rw [List.length_append, List.length_map, List.length_take]; omega
                clear hcell
                generalize gs.getD j ([], 0) = g at *
                obtain ⟨y1, y2⟩ := g
                have HST3 := hid (show (ys ++ (gs.take j).map adrOf) ++ [adrOf (y1, y2)] = ys ++ (gs.take (j + 1)).map adrOf by rw [hst]; simp)
                clear hst
                simp only at hx1 hx2 g0 g1
                generalize ys ++ (gs.take j).map adrOf = zs at *
                obtain ⟨W6, hW6⟩ : ∃ W6, wr.alloc (.cells #[.string (bs y1), .int .i64 y2] 122) = W6 := ⟨_, rfl⟩
                have hA6 : Below wr.heap.size wr W6 := by rw [← hW6]; exact (Below.refl _ _).alloc (Nat.le_refl _) _
                have b6 := hcw.trans (hA6.mono hcw.size)
                have p0 : W6.cell? ⟨wr.heap.size, 0, none⟩ = some (.string (bs y1)) := by rw [← hW6]; simp
                have p1 : W6.cell? ⟨wr.heap.size, 1, none⟩ = some (.int .i64 y2) := by rw [← hW6]; simp
                have hlt6 : wr.heap.size < W6.heap.size := by rw [← hW6]; simp
                have HO6 := hid (owns_below hown hA6)
                have HOw := hid hown
                have hlim := Lib.itoa_length_le y2 hx2.1 hx2.2
                have d3 : ∀ w' : World, (w'.cell? ⟨wr.heap.size, 0, none⟩ = some (.string (bs y1)) ∧ w'.cell? ⟨wr.heap.size, 1, none⟩ = some (.int .i64 y2) ∧ Below W6.heap.size W6 w') →
                    Hid (Calls Tryz.prog 86 #[.int .i64 y2] w' fun e w'' => e = .returned (.string (bs (Lib.itoa y2))) ∧ w''.cell? ⟨wr.heap.size, 0, none⟩ = some (.string (bs y1)) ∧ w''.cell? ⟨wr.heap.size, 1, none⟩ = some (.int .i64 y2) ∧ Below W6.heap.size W6 w'') := by
                  intro w' ⟨h0, h1, h2⟩
                  refine hid ((itoa_any y2 hx2.1 hx2.2 w' (hP.below (b6.trans (h2.mono b6.size)) (Nat.le_refl _))).mono ?_)
                  rintro e w'' ⟨rfl, hq⟩
                  have hl := Nat.lt_of_lt_of_le hlt6 h2.size
                  exact ⟨rfl, (hq.cell (p := ⟨wr.heap.size, 0, none⟩) hl).trans h0, (hq.cell (p := ⟨wr.heap.size, 1, none⟩) hl).trans h1, h2.trans (hq.mono h2.size)⟩
                have hd : Below W6.heap.size W6 W6.drew := (Below.refl _ _).drew
                have HA6 := hid hA6
                have hb6z : W1.heap.size ≤ W6.heap.size := by have := hA6.size; omega
                have HAD := hid (show adrOf (y1, y2) = (adrKey, y1 ++ [44] ++ Lib.itoa y2) from rfl)
                have HCC := hid hc
                have HBX := hid hcw
                generalize Lib.itoa y2 = it at *
                have hc1 : ¬ 9223372036854775807 < y1.length + 1 := by omega
                have hc2 : ¬ 9223372036854775807 < y1.length + 1 + it.length := by omega
                clear hown hA6 hc hcw b6
                go_wp2_with fail
                go_region_held3 (fun w' => w'.cell? ⟨wr.heap.size, 0, none⟩ = some (.string (bs y1)) ∧ w'.cell? ⟨wr.heap.size, 1, none⟩ = some (.int .i64 y2))
                  (first | exact ⟨by assumption, by assumption⟩ | go_keep | exact ⟨(append_far HOw.out hgrow ⟨wr.heap.size, 0, none⟩ (Nat.le_refl _) (by have := k2.size; simp; omega)).trans (by simp [*]), (append_far HOw.out hgrow ⟨wr.heap.size, 1, none⟩ (Nat.le_refl _) (by have := k2.size; simp; omega)).trans (by simp [*])⟩)
                  (first
                    | (go_at_call 86; refine (d3 _ ?_).out.mono ?_; (first | exact ⟨by assumption, by assumption, by assumption⟩ | exact ⟨by simp [*], by simp [*], hd⟩); rintro e w7 ⟨rfl, k0, k1, k2⟩)
                    | (refine step_append_own rfl (.tmp 39) (.tmp 48) 28 (by rfl) W1.heap.size 83 (.agg #[.string ⟨#[]⟩, .string ⟨#[]⟩]) 2 32 Tryz.underlying28 infoPair rfl (by decide) u8 zs.length (pairCells zs) (by simp [Act.eval]) ((owns_below HO6.out k2).alloc _) ⟨w7.heap.size, 0, none⟩ 1 1 [.string ⟨#[84, 97, 114, 103, 101, 116, 65, 100, 100, 114, 101, 115, 115]⟩, .string (bs (y1 ++ [44] ++ it))] (by simp [Act.eval]) rfl (cell_two_new _ _ _ _) (by simp [Value.oneCell']) (by unfold maxLen; omega) (by omega) (by have := k2.size; simp; omega) ?_; intro v' w8 hown8 hgrow _))
                all_goals
                  have q1 : Below W1.heap.size w3 w7 := (HCC.out.trans (HA6.out.mono (by omega))).trans (k2.mono hb6z)
                  have q1z := q1.size
                  have q3 : Below W1.heap.size w3 w8 := (q1.alloc (by omega) _).grown hgrow (by simp; omega) (fun g hg => (HO6.out.lt g hg).1)
                  have hown9 : w8.ownsRow W1.heap.size 83 2 v' (ys ++ (gs.take (j + 1)).map adrOf).length (pairCells (ys ++ (gs.take (j + 1)).map adrOf)) := by
                    rw [← HST3.out, HAD.out, pairCells_snoc, List.length_append]
                    exact hown8
                  clear hown8 hgrow q1 k2 k0 k1 d3 p0 p1
                  go_wp2
                  exact ⟨⟨j + 1, by omega, by go_num, hown9, q3⟩, by simp [intOf]; omega⟩
              · obtain rfl : j = gs.length := by omega
                rw [List.take_length, HST2.out] at hown
                have hcb := hb3.trans hc
                clear hc hcw
                go_wp2
                exact ⟨⟨k + 1, by omega, by go_num, by rw [HIS.out]; simp, hown, hcb⟩, by simp [intOf]; omega⟩
          · have hnx : (x == name) = false := beq_eq_false_iff_ne.2 hxn
            rw [hnx] at hst
            rw [hnx] at HIS
            have HST := hid (show listOf gs name false (ts.take (k + 1)) = xs by rw [hst]; simp)
            clear hst hxn
            go_wp2
            exact ⟨⟨k + 1, by omega, by go_num, by rw [HIS.out]; simp, by rw [HST.out]; exact hown, hb⟩, by simp [intOf]; omega⟩
        · obtain rfl : k = ts.length := by omega
          rw [List.take_length] at hown
          have hlt2 : ¬ ((ts.length : Int) < (ts.length : Int)) := by omega
          clear hk hB hlt
          rw [List.take_length]
          rw [HISF.out]
          go_wp2
          go_ret2
          exact ⟨⟨_, rfl, owns_base hown b1.size⟩, hbw⟩
end
end Go.Proofs.YtbimlijhgeajjaaGreatDoor
