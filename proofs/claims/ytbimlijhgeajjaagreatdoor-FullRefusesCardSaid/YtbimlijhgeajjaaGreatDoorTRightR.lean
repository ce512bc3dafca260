/- What is wrong with what a target is told, by the document. -/
import Derived.Test.YtbimlijhgeajjaaGreatDoorNegoR
import Derived.Test.YtbimlijhgeajjaaGreatDoorConfIn
import Derived.Test.YtbimlijhgeajjaaGreatDoorTRight
set_option linter.unusedSectionVars false
set_option linter.unusedSimpArgs false
set_option linter.unusedVariables false
namespace Go.Proofs.YtbimlijhgeajjaaGreatDoor
open Go Go.RowKit
set_option linter.unusedVariables false
set_option linter.unusedSectionVars false
set_option linter.unusedSimpArgs false
set_option maxRecDepth 100000
theorem tsl_take {w : World} {a : Option Addr} {n c : Nat} {l : List (List UInt8)} (h : TSl w (.slice a n c) l) (k : Nat) (hk : k ≤ l.length) (c' : Nat) : TSl w (.slice a k c') (l.take k) := by
  obtain ⟨a', cap, hv, hl, hc⟩ := h
  cases hv
  have hlen : (l.take k).length = k := by rw [List.length_take]; omega
  unfold TSl
  rw [hlen]
  refine ⟨a, c', rfl, by simp [txtCells, hlen]; omega, ?_⟩
  by_cases h0 : k = 0
  · exact .inl h0
  · obtain ⟨b, off, ha, hcell⟩ := hc.resolve_left (by omega)
    refine .inr ⟨b, off, ha, fun j u hu => hcell j u ?_⟩
    rw [txtCells, List.getElem?_map, List.getElem?_take] at hu
    rw [txtCells, List.getElem?_map]
    split at hu
    · exact hu
    · cases hu
/-- target.Has over a slice's first so many -/
theorem has_take_any (a : Option Addr) (n c : Nat) (l : List (List UInt8)) (x : List UInt8) (w : World) (h : TSl w (.slice a n c) l) (k : Nat) (hk : k ≤ l.length) (c' : Nat) (hn : l.length ≤ 1048576) :
    Calls Tryz.prog 77 #[.agg #[.slice a k c', .slice none 0 0, .slice none 0 0, .string ⟨#[]⟩, .string ⟨#[]⟩, .int .i64 0, .slice none 0 0], .string (bs x)] w fun e w' => e = .returned (.bool ((l.take k).contains x)) ∧ Below w.heap.size w w' := by
  have hlen : (l.take k).length = k := by rw [List.length_take]; omega
  have := rhas_any a c' (.slice none 0 0) (.slice none 0 0) (.slice none 0 0) [] [] 0 (l.take k) x w (by rw [hlen]; exact tsl_take h k hk c') (by rw [hlen]; omega)
  rw [hlen] at this
  exact this
def RQ1 (ts : List (List UInt8)) (B : Nat) (W : World) (i : Value) (wr : World) : Prop :=
  ∃ k : Nat, k ≤ ts.length ∧ i = .int .i64 (k : Nat) ∧ Hid (NoneAhead (tBad ts) k) ∧ Below B W wr
def RQ2 (gs : GL) (B : Nat) (W : World) (i : Value) (wr : World) : Prop :=
  ∃ k : Nat, k ≤ gs.length ∧ i = .int .i64 (k : Nat) ∧ Hid (NoneAhead (gBad gs) k) ∧ Below B W wr
def RQ3 (us : PL) (B : Nat) (W : World) (i : Value) (wr : World) : Prop :=
  ∃ k : Nat, k ≤ us.length ∧ i = .int .i64 (k : Nat) ∧ Hid (NoneAhead (uBad us) k) ∧ Below B W wr
def RQ4 (us : PL) (x : List UInt8) (k : Nat) (B : Nat) (W : World) (t i : Value) (wr : World) : Prop :=
  ∃ j : Nat, j ≤ k ∧ i = .int .i64 (j : Nat) ∧ t = .bool (((us.take j).map (·.1)).contains x) ∧ Below B W wr
theorem twice_step (us : PL) (x : List UInt8) (j : Nat) (hj : j < us.length) : ((us.take (j + 1)).map (·.1)).contains x = (((us.take j).map (·.1)).contains x || (us.getD j ([], [])).1 == x) := by
  rw [List.take_succ_eq_append_getElem hj, List.map_append, List.contains_append, List.getD, List.getElem?_eq_getElem hj]
  simp only [List.map_cons, List.map_nil, List.contains_cons, List.contains_nil, Bool.or_false, Option.getD_some]
  congr 1
  rw [Bool.eq_iff_iff, beq_iff_eq, beq_iff_eq]
  exact eq_comm
def FaultP (r : Nat × Int) (w : World) (e : Ending) (w' : World) : Prop := e = .returned (faultV r.1 r.2) ∧ Below w.heap.size w w'
section
variable (ta ga ua oa : Option Addr) (tc gc uc oc : Nat) (ts : List (List UInt8)) (gs : GL) (us : PL) (sn ss : List UInt8) (lim : Int) (own : PL) (w : World)
  (C : ConfIn w ts gs us sn ss lim own (.slice ta ts.length tc) (.slice ga gs.length gc) (.slice ua us.length uc) (.slice oa own.length oc))
  (hsz : ∀ k, (own.getD k ([], [])).2.length ≤ 100000) (hon : own.length ≤ 100000) (hP : PT w)
include C hsz hon hP
set_option maxHeartbeats 16000000 in
theorem rtRight_any : Calls Tryz.prog 35 #[confV (.slice ta ts.length tc) (.slice ga gs.length gc) (.slice ua us.length uc) (.slice oa own.length oc) sn ss lim] w fun e w' => FaultP (rightP ts gs us sn ss lim own) w e w' := by
  obtain ⟨W1, hW1⟩ : ∃ W1, w.alloc (.cells #[.slice ta ts.length tc, .slice ga gs.length gc, .slice ua us.length uc, .string (bs sn), .string (bs ss), .int .i64 lim, .slice oa own.length oc] 30) = W1 := ⟨_, rfl⟩
  have z1 : W1.heap.size = w.heap.size + 1 := by rw [← hW1]; simp
  obtain ⟨W2, hW2⟩ : ∃ W2, W1.alloc (.cells #[.int .i64 0, .int .i64 0] 34) = W2 := ⟨_, rfl⟩
  have F0 : ResF (w.heap.size + 1) W2 := by have := heap_alloc_new W1 (.cells #[.int .i64 0, .int .i64 0] 34); rw [z1, hW2] at this; exact this
  have b1 : Below w.heap.size w W1 := by rw [← hW1]; exact (Below.refl _ _).alloc (Nat.le_refl _) _
  have b12 : Below W1.heap.size W1 W2 := by rw [← hW2]; exact (Below.refl _ _).alloc (Nat.le_refl _) _
  have b0 := b1.trans (b12.mono b1.size)
  have z2 : W2.heap.size = w.heap.size + 2 := by rw [← hW2]; simp [z1]
  have t0 : W2.cell? ⟨w.heap.size, 0, none⟩ = some (.slice ta ts.length tc) := (b12.cell (p := ⟨w.heap.size, 0, none⟩) (by simp [z1])).trans (by rw [← hW1]; simp)
  have t1 : W2.cell? ⟨w.heap.size, 1, none⟩ = some (.slice ga gs.length gc) := (b12.cell (p := ⟨w.heap.size, 1, none⟩) (by simp [z1])).trans (by rw [← hW1]; simp)
  have t2 : W2.cell? ⟨w.heap.size, 2, none⟩ = some (.slice ua us.length uc) := (b12.cell (p := ⟨w.heap.size, 2, none⟩) (by simp [z1])).trans (by rw [← hW1]; simp)
  have t3 : W2.cell? ⟨w.heap.size, 3, none⟩ = some (.string (bs sn)) := (b12.cell (p := ⟨w.heap.size, 3, none⟩) (by simp [z1])).trans (by rw [← hW1]; simp)
  have t4 : W2.cell? ⟨w.heap.size, 4, none⟩ = some (.string (bs ss)) := (b12.cell (p := ⟨w.heap.size, 4, none⟩) (by simp [z1])).trans (by rw [← hW1]; simp)
  have t5 : W2.cell? ⟨w.heap.size, 5, none⟩ = some (.int .i64 lim) := (b12.cell (p := ⟨w.heap.size, 5, none⟩) (by simp [z1])).trans (by rw [← hW1]; simp)
  have t6 : W2.cell? ⟨w.heap.size, 6, none⟩ = some (.slice oa own.length oc) := (b12.cell (p := ⟨w.heap.size, 6, none⟩) (by simp [z1])).trans (by rw [← hW1]; simp)
  have HC := hid C
  have q0 := F0.c0
  have q1 := F0.c1
  have q2 := F0.f0
  have q3 := F0.f1
  have hov := hid (rightP_over ts gs us sn ss lim own)
  have hatT := hid (rightP_t ts gs us sn ss lim own)
  have hatG := hid (rightP_g ts gs us sn ss lim own)
  have hatU := hid (rightP_u ts gs us sn ss lim own)
  have hrest := hid (rightP_rest ts gs us sn ss lim own)
  have tn := C.tn
  have gn := C.gn
  have un := C.un
  have ksl := C.capS _ _ rfl
  have kul := C.capU _ _ rfl
  unfold confV
  by_cases h8 : 8 < ts.length
  · have d8 : decide ((8 : Int) < (ts.length : Int)) = true := decide_eq_true (by omega)
    have HE := hid (hov.out (.inl h8))
    clear h8 hov hatT hatG hatU hrest C
    go_enter Tryz.func35, Tryz.ntmps35
    go_wp2_with fail
    refine (bareF_any _ _).mono ?_
    rintro e w2 ⟨rfl, hb2⟩
    have F2 := F0.below hb2
    have q0 := F2.c0
    have q1 := F2.c1
    have q2 := F2.f0
    have q3 := F2.f1
    have b2 := b0.trans (hb2.mono b0.size)
    go_wp2
    refine bodyPost_ret (v := .agg #[.int .i64 4, .int .i64 (-1)]) (by simp [results, Tryz.results35, go_sem, q0, q1]) rfl ?_
    exact ⟨by rw [HE.out]; rfl, (b2.setCell (p := ⟨w.heap.size + 1, 0, none⟩) (by simp) _).setCell (p := ⟨w.heap.size + 1, 1, none⟩) (by simp) _⟩
  have d8 : decide ((8 : Int) < (ts.length : Int)) = false := decide_eq_false (by omega)
  by_cases h4 : 4 < gs.length
  · have d4 : decide ((4 : Int) < (gs.length : Int)) = true := decide_eq_true (by omega)
    have HE := hid (hov.out (.inr (.inl h4)))
    clear h8 h4 hov hatT hatG hatU hrest C
    go_enter Tryz.func35, Tryz.ntmps35
    go_wp2_with fail
    refine (bareF_any _ _).mono ?_
    rintro e w2 ⟨rfl, hb2⟩
    have F2 := F0.below hb2
    have q0 := F2.c0
    have q1 := F2.c1
    have q2 := F2.f0
    have q3 := F2.f1
    have b2 := b0.trans (hb2.mono b0.size)
    go_wp2
    refine bodyPost_ret (v := .agg #[.int .i64 4, .int .i64 (-1)]) (by simp [results, Tryz.results35, go_sem, q0, q1]) rfl ?_
    exact ⟨by rw [HE.out]; rfl, (b2.setCell (p := ⟨w.heap.size + 1, 0, none⟩) (by simp) _).setCell (p := ⟨w.heap.size + 1, 1, none⟩) (by simp) _⟩
  have d4 : decide ((4 : Int) < (gs.length : Int)) = false := decide_eq_false (by omega)
  by_cases hu8 : 8 < us.length
  · have du : decide ((8 : Int) < (us.length : Int)) = true := decide_eq_true (by omega)
    have HE := hid (hov.out (.inr (.inr hu8)))
    clear h8 h4 hu8 hov hatT hatG hatU hrest C
    go_enter Tryz.func35, Tryz.ntmps35
    go_wp2_with fail
    refine (bareF_any _ _).mono ?_
    rintro e w2 ⟨rfl, hb2⟩
    have F2 := F0.below hb2
    have q0 := F2.c0
    have q1 := F2.c1
    have q2 := F2.f0
    have q3 := F2.f1
    have b2 := b0.trans (hb2.mono b0.size)
    go_wp2
    refine bodyPost_ret (v := .agg #[.int .i64 4, .int .i64 (-1)]) (by simp [results, Tryz.results35, go_sem, q0, q1]) rfl ?_
    exact ⟨by rw [HE.out]; rfl, (b2.setCell (p := ⟨w.heap.size + 1, 0, none⟩) (by simp) _).setCell (p := ⟨w.heap.size + 1, 1, none⟩) (by simp) _⟩
  have du : decide ((8 : Int) < (us.length : Int)) = false := decide_eq_false (by omega)
  have hno : ¬ overP ts gs us := by unfold overP; omega
  have hatT := hid (hatT.out hno)
  have hatG := hid (hatG.out hno)
  have hatU := hid (hatU.out hno)
  have hrest := hid (hrest.out hno)
  have HF0 := hid F0
  clear h8 h4 hu8 hov hno C q0 q1 q2 q3 F0
  go_enter Tryz.func35, Tryz.ntmps35
  go_wp2
  have hpw : w.heap.size < W2.heap.size := by omega
  go_loopw [34] (fun i wr => RQ1 ts W2.heap.size W2 i wr) (fun i _ => ts.length - (intOf i).toNat)
  case atStart => exact ⟨0, by omega, rfl, hid (noneAhead_zero _), Below.refl _ _⟩
  case round =>
    obtain ⟨k, hk, rfl, HA, hb⟩ := hrel
    have hB := hb.size
    have bw := b0.trans (hb.mono b0.size)
    have F := HF0.out.below hb
    have T0 := hid ((hb.cell (p := ⟨w.heap.size, 0, none⟩) hpw).trans t0)
    have T1 := hid ((hb.cell (p := ⟨w.heap.size, 1, none⟩) hpw).trans t1)
    have T2 := hid ((hb.cell (p := ⟨w.heap.size, 2, none⟩) hpw).trans t2)
    have T3 := hid ((hb.cell (p := ⟨w.heap.size, 3, none⟩) hpw).trans t3)
    have T4 := hid ((hb.cell (p := ⟨w.heap.size, 4, none⟩) hpw).trans t4)
    have T5 := hid ((hb.cell (p := ⟨w.heap.size, 5, none⟩) hpw).trans t5)
    have T6 := hid ((hb.cell (p := ⟨w.heap.size, 6, none⟩) hpw).trans t6)
    have t0 := T0.out
    have HT1 := hid (HC.out.ht.below bw)
    have hp1 : w.heap.size < wr.heap.size := by omega
    by_cases hlt : k < ts.length
    · obtain ⟨b, o, rfl, hbl, hcell⟩ := HT1.out.open_ (by omega)
      have g0 := hcell k hlt
      have hx := HC.out.tl k hlt
      have HGA := hid (fun h0 => HA.out.step (k := k) h0)
      have HAT := hid (fun hb0 => hatT.out k hlt hb0 HA.out)
      have HBK := hid (show tBad ts k = if nameOk (ts.getD k []) = true ∧ (ts.take k).contains (ts.getD k []) = false then 0 else 5 from rfl)
      have ci := fun W => hid (isName_any (ts.getD k []) W hx)
      have ch := fun W (hb : Below w.heap.size w W) => hid (has_take_any (some ⟨b, o, none⟩) ts.length tc ts (ts.getD k []) W (HC.out.ht.below hb) k hk tc tn)
      have hk64 : (k : Int) ≤ (tc : Int) := by omega
      clear hcell HT1
      generalize ts.getD k [] = x at *
      generalize (ts.take k).contains x = cs at *
      cases hn : nameOk x with
      | false =>
        have hbk : tBad ts k = 5 := by rw [HBK.out, hn]; rfl
        have HE := hid (show rightP ts gs us sn ss lim own = (5, (k : Int)) by rw [HAT.out (by rw [hbk]; omega), hbk])
        rw [hn] at ci
        clear hbk HBK HAT HGA hn ch
        go_wp2_with fail
        refine (ci _).out.mono ?_
        rintro e w2 ⟨rfl, hb2⟩
        have b2 := bw.trans (hb2.mono bw.size)
        have F2 := F.below hb2
        have q0 := F2.c0
        have q1 := F2.c1
        have q2 := F2.f0
        have q3 := F2.f1
        go_wp2
        refine bodyPost_ret (v := .agg #[.int .i64 5, .int .i64 (k : Nat)]) (by simp [results, Tryz.results35, go_sem, q0, q1]) rfl ?_
        exact ⟨by rw [HE.out]; rfl, (b2.setCell (p := ⟨w.heap.size + 1, 0, none⟩) (by simp) _).setCell (p := ⟨w.heap.size + 1, 1, none⟩) (by simp) _⟩
      | true =>
        rw [hn] at ci
        cases cs with
        | true =>
          have hbk : tBad ts k = 5 := by rw [HBK.out, hn]; rfl
          have HE := hid (show rightP ts gs us sn ss lim own = (5, (k : Int)) by rw [HAT.out (by rw [hbk]; omega), hbk])
          clear hbk HBK HAT HGA hn
          go_wp2_with fail
          refine (ci _).out.mono ?_
          rintro e w2 ⟨rfl, hb2⟩
          have b2 := bw.trans (hb2.mono bw.size)
          have F2 := F.below hb2
          have g0 := (hb2.cell (p := ⟨b, (o + k), none⟩) hbl).trans g0
          have t0 := (hb2.cell (p := ⟨w.heap.size, 0, none⟩) hp1).trans t0
          go_wp2_with fail
          refine (ch _ b2).out.mono ?_
          rintro e w3 ⟨rfl, hb3⟩
          have b3 := b2.trans (hb3.mono b2.size)
          have F3 := F2.below hb3
          have q0 := F3.c0
          have q1 := F3.c1
          have q2 := F3.f0
          have q3 := F3.f1
          go_wp2
          refine bodyPost_ret (v := .agg #[.int .i64 5, .int .i64 (k : Nat)]) (by simp [results, Tryz.results35, go_sem, q0, q1]) rfl ?_
          exact ⟨by rw [HE.out]; rfl, (b3.setCell (p := ⟨w.heap.size + 1, 0, none⟩) (by simp) _).setCell (p := ⟨w.heap.size + 1, 1, none⟩) (by simp) _⟩
        | false =>
          have hbk : tBad ts k = 0 := by rw [HBK.out, hn]; rfl
          have HG2 := hid (HGA.out hbk)
          clear hbk HBK HAT HGA hn
          go_wp2_with fail
          refine (ci _).out.mono ?_
          rintro e w2 ⟨rfl, hb2⟩
          have b2 := bw.trans (hb2.mono bw.size)
          have F2 := F.below hb2
          have g0 := (hb2.cell (p := ⟨b, (o + k), none⟩) hbl).trans g0
          have t0 := (hb2.cell (p := ⟨w.heap.size, 0, none⟩) hp1).trans t0
          go_wp2_with fail
          refine (ch _ b2).out.mono ?_
          rintro e w3 ⟨rfl, hb3⟩
          have b3 := b2.trans (hb3.mono b2.size)
          have F3 := F2.below hb3
          go_wp2
          exact ⟨⟨k + 1, by omega, by go_num, hid HG2.out, (hb.trans (hb2.mono hB)).trans (hb3.mono (by have := hb2.size; omega))⟩, by simp [intOf]; omega⟩
    · obtain rfl : k = ts.length := by omega
      have HNT := hid HA.out
      have hatG := hid (hatG.out HNT.out)
      have hatU := hid (hatU.out HNT.out)
      have hrest := hid (hrest.out HNT.out)
      have F1 := hid F
      clear F hatT HT1 HA hb hB hlt t0 t1 t2 t3 t4 t5 t6 b0 HF0
      rename World => wo
      have t1 := T1.out
      go_wp2
      go_loopw [57] (fun i wr => RQ2 gs wo.heap.size wo i wr) (fun i _ => gs.length - (intOf i).toNat)
      case atStart => exact ⟨0, by omega, rfl, hid (noneAhead_zero _), Below.refl _ _⟩
      case round =>
        obtain ⟨k, hk, rfl, HA, hb⟩ := hrel
        have hB := hb.size
        have bw2 := bw.trans (hb.mono bw.size)
        have F := F1.out.below hb
        have T0 := hid ((hb.cell (p := ⟨w.heap.size, 0, none⟩) hp1).trans T0.out)
        have T1 := hid ((hb.cell (p := ⟨w.heap.size, 1, none⟩) hp1).trans T1.out)
        have T2 := hid ((hb.cell (p := ⟨w.heap.size, 2, none⟩) hp1).trans T2.out)
        have T3 := hid ((hb.cell (p := ⟨w.heap.size, 3, none⟩) hp1).trans T3.out)
        have T4 := hid ((hb.cell (p := ⟨w.heap.size, 4, none⟩) hp1).trans T4.out)
        have T5 := hid ((hb.cell (p := ⟨w.heap.size, 5, none⟩) hp1).trans T5.out)
        have T6 := hid ((hb.cell (p := ⟨w.heap.size, 6, none⟩) hp1).trans T6.out)
        have t1 := T1.out
        have HG1 := hid (HC.out.hg.below bw2)
        have hp2 : w.heap.size < wr.heap.size := by omega
        by_cases hlt : k < gs.length
        · obtain ⟨_, b, o, c, hveq, hbl, hcell⟩ := HG1.out.open_.resolve_left (by rintro ⟨rfl, _⟩; simp at hlt)
          cases hveq
          obtain ⟨g0, g1⟩ := hcell k hlt
          have hx := HC.out.gl k hlt
          have HGA := hid (fun h0 => HA.out.step (k := k) h0)
          have HAT := hid (fun hb0 => hatG.out k hlt hb0 HA.out)
          have ci := fun W => hid (isName_any (gs.getD k ([], 0)).1 W hx)
          have HBK := hid (show gBad gs k = if nameOk (gs.getD k ([], 0)).1 = false then 5 else if (gs.getD k ([], 0)).2 < 0 ∨ 65535 < (gs.getD k ([], 0)).2 then 2 else 0 from rfl)
          clear hcell HG1
          generalize gs.getD k ([], 0) = x at *
          obtain ⟨x1, x2⟩ := x
          simp only at *
          obtain ⟨W6, hW6⟩ : ∃ W6, wr.alloc (.cells #[.string (bs x1), .int .i64 x2] 122) = W6 := ⟨_, rfl⟩
          have hA6 : Below wr.heap.size wr W6 := by rw [← hW6]; exact (Below.refl _ _).alloc (Nat.le_refl _) _
          have b6 := bw2.trans (hA6.mono bw2.size)
          have F6 := F.below hA6
          have p0 : W6.cell? ⟨wr.heap.size, 0, none⟩ = some (.string (bs x1)) := by rw [← hW6]; simp
          have p1 : W6.cell? ⟨wr.heap.size, 1, none⟩ = some (.int .i64 x2) := by rw [← hW6]; simp
          have hlt6 : wr.heap.size < W6.heap.size := by rw [← hW6]; simp
          cases hn : nameOk x1 with
          | false =>
            have hbk : gBad gs k = 5 := by rw [HBK.out, hn]; rfl
            have HE := hid (show rightP ts gs us sn ss lim own = (5, (k : Int)) by rw [HAT.out (by rw [hbk]; omega), hbk])
            rw [hn] at ci
            clear hbk HBK HAT HGA hn
            go_wp2_with fail
            refine (ci _).out.mono ?_
            rintro e w2 ⟨rfl, hb2⟩
            have b2 := b6.trans (hb2.mono b6.size)
            have F2 := F6.below hb2
            have q0 := F2.c0
            have q1 := F2.c1
            have q2 := F2.f0
            have q3 := F2.f1
            go_wp2
            refine bodyPost_ret (v := .agg #[.int .i64 5, .int .i64 (k : Nat)]) (by simp [results, Tryz.results35, go_sem, q0, q1]) rfl ?_
            exact ⟨by rw [HE.out]; rfl, (b2.setCell (p := ⟨w.heap.size + 1, 0, none⟩) (by simp) _).setCell (p := ⟨w.heap.size + 1, 1, none⟩) (by simp) _⟩
          | true =>
            rw [hn] at ci
            by_cases hzz : x2 < 0 ∨ 65535 < x2
            · have hbk : gBad gs k = 2 := by rw [HBK.out, hn, if_neg (by simp), if_pos hzz]
              have HE := hid (show rightP ts gs us sn ss lim own = (2, (k : Int)) by rw [HAT.out (by rw [hbk]; omega), hbk])
              have cw := fun W => hid (within_false x2 0 65535 W hzz)
              clear hbk HBK HAT HGA hn hzz
              go_wp2_with fail
              refine (ci _).out.mono ?_
              rintro e w2 ⟨rfl, hb2⟩
              have b2 := b6.trans (hb2.mono b6.size)
              have F2 := F6.below hb2
              have p0 := (hb2.cell (p := ⟨wr.heap.size, 0, none⟩) hlt6).trans p0
              have p1 := (hb2.cell (p := ⟨wr.heap.size, 1, none⟩) hlt6).trans p1
              go_wp2_with fail
              refine (cw _).out.mono ?_
              rintro e w3 ⟨rfl, hw3⟩
              have hv3 := hw3.symm
              clear hw3
              subst hv3
              have q0 := F2.c0
              have q1 := F2.c1
              have q2 := F2.f0
              have q3 := F2.f1
              go_wp2
              refine bodyPost_ret (v := .agg #[.int .i64 2, .int .i64 (k : Nat)]) (by simp [results, Tryz.results35, go_sem, q0, q1]) rfl ?_
              exact ⟨by rw [HE.out]; rfl, (b2.setCell (p := ⟨w.heap.size + 1, 0, none⟩) (by simp) _).setCell (p := ⟨w.heap.size + 1, 1, none⟩) (by simp) _⟩
            · have hbk : gBad gs k = 0 := by rw [HBK.out, hn, if_neg (by simp), if_neg hzz]
              have HG2 := hid (HGA.out hbk)
              have cw := fun W => hid (within_true x2 0 65535 W (by omega) (by omega))
              clear hbk HBK HAT HGA hn hzz
              go_wp2_with fail
              refine (ci _).out.mono ?_
              rintro e w2 ⟨rfl, hb2⟩
              have b2 := b6.trans (hb2.mono b6.size)
              have F2 := F6.below hb2
              have p0 := (hb2.cell (p := ⟨wr.heap.size, 0, none⟩) hlt6).trans p0
              have p1 := (hb2.cell (p := ⟨wr.heap.size, 1, none⟩) hlt6).trans p1
              go_wp2_with fail
              refine (cw _).out.mono ?_
              rintro e w3 ⟨rfl, hw3⟩
              have hv3 := hw3.symm
              clear hw3
              subst hv3
              go_wp2
              exact ⟨⟨k + 1, by omega, by go_num, hid HG2.out, (hb.trans (hA6.mono hB)).trans (hb2.mono (by omega))⟩, by simp [intOf]; omega⟩
        · obtain rfl : k = gs.length := by omega
          have HNG := hid HA.out
          have hatU := hid (hatU.out HNG.out)
          have hrest := hid (hrest.out HNG.out)
          have F2 := hid F
          clear F hatG HG1 HA hb hB bw hlt t1 F1
          rename World => wo2
          have t2 := T2.out
          go_wp2
          go_loopw [78] (fun i wr => RQ3 us wo2.heap.size wo2 i wr) (fun i _ => us.length - (intOf i).toNat)
          case atStart => exact ⟨0, by omega, rfl, hid (noneAhead_zero _), Below.refl _ _⟩
          case round =>
            obtain ⟨k, hk, rfl, HA, hb⟩ := hrel
            have hB := hb.size
            have bw3 := bw2.trans (hb.mono bw2.size)
            have F := F2.out.below hb
            have T0 := hid ((hb.cell (p := ⟨w.heap.size, 0, none⟩) hp2).trans T0.out)
            have T1 := hid ((hb.cell (p := ⟨w.heap.size, 1, none⟩) hp2).trans T1.out)
            have T2 := hid ((hb.cell (p := ⟨w.heap.size, 2, none⟩) hp2).trans T2.out)
            have T3 := hid ((hb.cell (p := ⟨w.heap.size, 3, none⟩) hp2).trans T3.out)
            have T4 := hid ((hb.cell (p := ⟨w.heap.size, 4, none⟩) hp2).trans T4.out)
            have T5 := hid ((hb.cell (p := ⟨w.heap.size, 5, none⟩) hp2).trans T5.out)
            have T6 := hid ((hb.cell (p := ⟨w.heap.size, 6, none⟩) hp2).trans T6.out)
            have HU1 := hid (HC.out.hu.below bw3)
            have hp3 : w.heap.size < wr.heap.size := by omega
            by_cases hlt : k < us.length
            · obtain ⟨_, b, o, c, hveq, hbl, hcell⟩ := HU1.out.open_.resolve_left (by rintro ⟨rfl, _⟩; simp at hlt)
              cases hveq
              obtain ⟨g0, g1⟩ := hcell k hlt
              have Hcell := hid hcell
              have hx := HC.out.ul k hlt
              have HGA := hid (fun h0 => HA.out.step (k := k) h0)
              have HAT := hid (fun hb0 => hatU.out k hlt hb0 HA.out)
              have ct1 := fun W => hid (isName_any (us.getD k ([], [])).1 W hx.1)
              have ct2 := fun W => hid (isName_any (us.getD k ([], [])).2 W hx.2)
              have HBK := hid (show uBad us k = if nameOk (us.getD k ([], [])).1 = true ∧ nameOk (us.getD k ([], [])).2 = true ∧ ((us.take k).map (·.1)).contains (us.getD k ([], [])).1 = false then 0 else 5 from rfl)
              have hk64 : (k : Int) ≤ (uc : Int) := by omega
              clear hcell hx
              generalize us.getD k ([], []) = x at *
              obtain ⟨x1, x2⟩ := x
              simp only at *
              obtain ⟨W6, hW6⟩ : ∃ W6, wr.alloc (.cells #[.string (bs x1), .string (bs x2)] 27) = W6 := ⟨_, rfl⟩
              have hA6 : Below wr.heap.size wr W6 := by rw [← hW6]; exact (Below.refl _ _).alloc (Nat.le_refl _) _
              have b6 := bw3.trans (hA6.mono bw3.size)
              have F6 := F.below hA6
              have p0 : W6.cell? ⟨wr.heap.size, 0, none⟩ = some (.string (bs x1)) := by rw [← hW6]; simp
              have p1 : W6.cell? ⟨wr.heap.size, 1, none⟩ = some (.string (bs x2)) := by rw [← hW6]; simp
              have t2 := (hA6.cell (p := ⟨w.heap.size, 2, none⟩) hp3).trans T2.out
              have hlt6 : wr.heap.size < W6.heap.size := by rw [← hW6]; simp
              have HTW := hid (twice_step us x1)
              have hB6 := hb.trans (hA6.mono hB)
              have Hbl := hid (hA6.size)
              go_wp2
              generalize hpb : wr.heap.size = pb at *
              clear hW6
              go_loopw [9, 88] (fun t i wr => RQ4 us x1 k W6.heap.size W6 t i wr) (fun _ i _ => k - (intOf i).toNat)
              case atStart => exact ⟨0, by omega, rfl, rfl, Below.refl _ _⟩
              case round =>
                obtain ⟨j, hj, rfl, rfl, hc⟩ := hrel
                have hC := hc.size
                have p0 := (hc.cell (p := ⟨pb, 0, none⟩) hlt6).trans p0
                have p1 := (hc.cell (p := ⟨pb, 1, none⟩) hlt6).trans p1
                by_cases hjk : j < k
                · obtain ⟨c0, c1⟩ := Hcell.out j (by omega)
                  have c0 := (hA6.cell (p := ⟨b, o + j * 2, none⟩) hbl).trans c0
                  have c1 := (hA6.cell (p := ⟨b, o + j * 2 + 1, none⟩) hbl).trans c1
                  have hbw : b < W6.heap.size := by have := Hbl.out; omega
                  have c0 := (hc.cell (p := ⟨b, o + j * 2, none⟩) hbw).trans c0
                  have c1 := (hc.cell (p := ⟨b, o + j * 2 + 1, none⟩) hbw).trans c1
                  have hlt7 : pb < wr.heap.size := Nat.lt_of_lt_of_le hlt6 hC
                  have HTJ := hid (HTW.out j (by omega))
                  generalize us.getD j ([], []) = y at *
                  obtain ⟨y1, y2⟩ := y
                  simp only at *
                  cases htj : ((us.take j).map (·.1)).contains x1 with
                  | true =>
                    rw [htj] at HTJ
                    go_wp2
                    exact ⟨⟨j + 1, by omega, by go_num, by rw [HTJ.out]; rfl, hc.alloc hC _⟩, by simp [intOf]; omega⟩
                  | false =>
                    rw [htj] at HTJ
                    go_wp2
                    exact ⟨⟨j + 1, by omega, by go_num, by rw [HTJ.out]; rfl, hc.alloc hC _⟩, by simp [intOf]; omega⟩
                · obtain rfl : j = k := by omega
                  have F7 := F6.below hc
                  have b7 := b6.trans (hc.mono b6.size)
                  have hlt7 : pb < wr.heap.size := Nat.lt_of_lt_of_le hlt6 hC
                  clear HTW hjk
                  generalize ((us.take j).map (·.1)).contains x1 = tw at *
                  cases tw with
                  | true =>
                    have hbk : uBad us j = 5 := by rw [HBK.out, if_neg (by simp)]
                    have HE := hid (show rightP ts gs us sn ss lim own = (5, (j : Int)) by rw [HAT.out (by rw [hbk]; omega), hbk])
                    clear hbk HBK HAT HGA
                    have q0 := F7.c0
                    have q1 := F7.c1
                    have q2 := F7.f0
                    have q3 := F7.f1
                    go_wp2
                    refine bodyPost_ret (v := .agg #[.int .i64 5, .int .i64 (j : Nat)]) (by simp [results, Tryz.results35, go_sem, q0, q1]) rfl ?_
                    exact ⟨by rw [HE.out]; rfl, (b7.setCell (p := ⟨w.heap.size + 1, 0, none⟩) (by simp) _).setCell (p := ⟨w.heap.size + 1, 1, none⟩) (by simp) _⟩
                  | false =>
                    cases hn1 : nameOk x1 with
                    | false =>
                      have hbk : uBad us j = 5 := by rw [HBK.out, hn1]; rfl
                      have HE := hid (show rightP ts gs us sn ss lim own = (5, (j : Int)) by rw [HAT.out (by rw [hbk]; omega), hbk])
                      rw [hn1] at ct1
                      clear hbk HBK HAT HGA hn1
                      go_wp2_with fail
                      refine (ct1 _).out.mono ?_
                      rintro e w2 ⟨rfl, hb2⟩
                      have b2 := b7.trans (hb2.mono b7.size)
                      have F2 := F7.below hb2
                      have q0 := F2.c0
                      have q1 := F2.c1
                      have q2 := F2.f0
                      have q3 := F2.f1
                      go_wp2
                      refine bodyPost_ret (v := .agg #[.int .i64 5, .int .i64 (j : Nat)]) (by simp [results, Tryz.results35, go_sem, q0, q1]) rfl ?_
                      exact ⟨by rw [HE.out]; rfl, (b2.setCell (p := ⟨w.heap.size + 1, 0, none⟩) (by simp) _).setCell (p := ⟨w.heap.size + 1, 1, none⟩) (by simp) _⟩
                    | true =>
                      rw [hn1] at ct1
                      cases hn2 : nameOk x2 with
                      | false =>
                        have hbk : uBad us j = 5 := by rw [HBK.out, hn1, hn2]; rfl
                        have HE := hid (show rightP ts gs us sn ss lim own = (5, (j : Int)) by rw [HAT.out (by rw [hbk]; omega), hbk])
                        rw [hn2] at ct2
                        clear hbk HBK HAT HGA hn1 hn2
                        go_wp2_with fail
                        refine (ct1 _).out.mono ?_
                        rintro e w2 ⟨rfl, hb2⟩
                        have b2 := b7.trans (hb2.mono b7.size)
                        have F2 := F7.below hb2
                        have p0 := (hb2.cell (p := ⟨pb, 0, none⟩) hlt7).trans p0
                        have p1 := (hb2.cell (p := ⟨pb, 1, none⟩) hlt7).trans p1
                        go_wp2_with fail
                        refine (ct2 _).out.mono ?_
                        rintro e w3 ⟨rfl, hb3⟩
                        have b3 := b2.trans (hb3.mono b2.size)
                        have F3 := F2.below hb3
                        have q0 := F3.c0
                        have q1 := F3.c1
                        have q2 := F3.f0
                        have q3 := F3.f1
                        go_wp2
                        refine bodyPost_ret (v := .agg #[.int .i64 5, .int .i64 (j : Nat)]) (by simp [results, Tryz.results35, go_sem, q0, q1]) rfl ?_
                        exact ⟨by rw [HE.out]; rfl, (b3.setCell (p := ⟨w.heap.size + 1, 0, none⟩) (by simp) _).setCell (p := ⟨w.heap.size + 1, 1, none⟩) (by simp) _⟩
                      | true =>
                        have hbk : uBad us j = 0 := by rw [HBK.out, hn1, hn2]; rfl
                        have HG2 := hid (HGA.out hbk)
                        rw [hn2] at ct2
                        clear hbk HBK HAT HGA hn1 hn2
                        go_wp2_with fail
                        refine (ct1 _).out.mono ?_
                        rintro e w2 ⟨rfl, hb2⟩
                        have b2 := b7.trans (hb2.mono b7.size)
                        have F2 := F7.below hb2
                        have p0 := (hb2.cell (p := ⟨pb, 0, none⟩) hlt7).trans p0
                        have p1 := (hb2.cell (p := ⟨pb, 1, none⟩) hlt7).trans p1
                        go_wp2_with fail
                        refine (ct2 _).out.mono ?_
                        rintro e w3 ⟨rfl, hb3⟩
                        have b3 := b2.trans (hb3.mono b2.size)
                        have F3 := F2.below hb3
                        go_wp2
                        have hz2 := hb2.size
                        exact ⟨⟨j + 1, by omega, by go_num, hid HG2.out, ((hB6.trans (hc.mono (by have := hB6.size; omega))).trans (hb2.mono (by omega))).trans (hb3.mono (by omega))⟩, by simp [intOf]; omega⟩
            · obtain rfl : k = us.length := by omega
              have HNU := hid HA.out
              have hrest := hid (hrest.out HNU.out)
              have hsn := HC.out.snl
              have hss := HC.out.ssl
              have cnew := fun W (hb : Below w.heap.size w W) => rnew_any _ own W (HC.out.ho.below hb) HC.out.pbd hon hsz (hP.below hb (Nat.le_refl _))
              unfold RNegoPost at cnew
              have ct1 := fun W => hid (isName_any sn W hsn)
              have ct2 := fun W => hid (isName_any ss W hss)
              have t3 := T3.out
              have t4 := T4.out
              have t5 := T5.out
              have t6 := T6.out
              have F3 := F
              have Cnew := hid cnew
              clear cnew hatU HU1 HA hb hB bw2 hlt HNT HNG HNU F2 F
              have hcat : (sn ++ ss == []) = (sn.length + ss.length == 0) := by cases sn <;> cases ss <;> simp
              by_cases he0 : sn.length + ss.length = 0
              · have HR := hid (show rightP ts gs us sn ss lim own = if lim < 512 ∨ 100000 < lim then (2, -1) else negoP own by rw [hrest.out, if_neg (by unfold selfBad; rw [beq_iff_eq.2 he0]; simp)])
                have hem : (sn ++ ss == []) = true := by rw [hcat, beq_iff_eq.2 he0]
                clear hrest he0 hcat ct1 ct2
                by_cases hl : lim < 512 ∨ 100000 < lim
                · have cw := fun W => hid (within_false lim 512 100000 W hl)
                  have HE := hid (show rightP ts gs us sn ss lim own = (2, -1) by rw [HR.out, if_pos hl])
                  clear HR hl
                  go_wp2_with fail
                  refine (cw _).out.mono ?_
                  rintro e w8 ⟨rfl, hw8⟩
                  have hv8 := hw8.symm
                  clear hw8
                  subst hv8
                  go_wp2_with fail
                  refine (bareF_any _ _).mono ?_
                  rintro e w9 ⟨rfl, hb9⟩
                  have F9 := F3.below hb9
                  have b9 := bw3.trans (hb9.mono bw3.size)
                  have q0 := F9.c0
                  have q1 := F9.c1
                  have q2 := F9.f0
                  have q3 := F9.f1
                  go_wp2
                  refine bodyPost_ret (v := .agg #[.int .i64 2, .int .i64 (-1)]) (by simp [results, Tryz.results35, go_sem, q0, q1]) rfl ?_
                  exact ⟨by rw [HE.out]; rfl, (b9.setCell (p := ⟨w.heap.size + 1, 0, none⟩) (by simp) _).setCell (p := ⟨w.heap.size + 1, 1, none⟩) (by simp) _⟩
                have cw := fun W => hid (within_true lim 512 100000 W (by omega) (by omega))
                have HE := hid (show rightP ts gs us sn ss lim own = negoP own by rw [HR.out, if_neg hl])
                have cn := fun W hb => hid (Cnew.out W hb)
                unfold faultV at cn
                clear HR hl
                go_wp2_with fail
                refine (cw _).out.mono ?_
                rintro e w8 ⟨rfl, hw8⟩
                have hv8 := hw8.symm
                clear hw8
                subst hv8
                go_wp2_with fail
                refine (cn _ bw3).out.mono ?_
                rintro e w9 ⟨⟨p, rfl, _, _⟩, hb9⟩
                have F9 := F3.below hb9
                have b9 := bw3.trans (hb9.mono bw3.size)
                have bA := b9.alloc b9.size (.cells #[.int .i64 ((negoP own).1 : Nat), .int .i64 (negoP own).2] 34)
                have FA := F9.below ((Below.refl _ _).alloc (Nat.le_refl _) (.cells #[.int .i64 ((negoP own).1 : Nat), .int .i64 (negoP own).2] 34))
                have q0 := FA.c0
                have q1 := FA.c1
                have q2 := FA.f0
                have q3 := FA.f1
                go_wp2
                refine bodyPost_ret (v := .agg #[.int .i64 ((negoP own).1 : Nat), .int .i64 (negoP own).2]) (by simp [results, Tryz.results35, go_sem, q0, q1]) rfl ?_
                exact ⟨by rw [HE.out]; rfl, (bA.setCell (p := ⟨w.heap.size + 1, 0, none⟩) (by simp) _).setCell (p := ⟨w.heap.size + 1, 1, none⟩) (by simp) _⟩
              · have hbe : (sn.length + ss.length == 0) = false := beq_eq_false_iff_ne.2 he0
                have hem : (sn ++ ss == []) = false := by rw [hcat, hbe]
                have HSB := hid (show selfBad sn ss = !(nameOk sn && nameOk ss) by unfold selfBad; rw [hbe]; rfl)
                clear hbe he0 hcat
                cases hn1 : nameOk sn with
                | false =>
                  have HE := hid (show rightP ts gs us sn ss lim own = (3, -1) by rw [hrest.out, HSB.out, hn1, if_pos (by rfl)])
                  rw [hn1] at ct1
                  clear hrest HSB hn1 ct2
                  go_wp2_with fail
                  refine (ct1 _).out.mono ?_
                  rintro e w2 ⟨rfl, hb2⟩
                  have b2 := bw3.trans (hb2.mono bw3.size)
                  have F2 := F3.below hb2
                  go_wp2_with fail
                  refine (bareF_any _ _).mono ?_
                  rintro e w9 ⟨rfl, hb9⟩
                  have F9 := F2.below hb9
                  have b9 := b2.trans (hb9.mono b2.size)
                  have q0 := F9.c0
                  have q1 := F9.c1
                  have q2 := F9.f0
                  have q3 := F9.f1
                  go_wp2
                  refine bodyPost_ret (v := .agg #[.int .i64 3, .int .i64 (-1)]) (by simp [results, Tryz.results35, go_sem, q0, q1]) rfl ?_
                  exact ⟨by rw [HE.out]; rfl, (b9.setCell (p := ⟨w.heap.size + 1, 0, none⟩) (by simp) _).setCell (p := ⟨w.heap.size + 1, 1, none⟩) (by simp) _⟩
                | true =>
                  rw [hn1] at ct1
                  cases hn2 : nameOk ss with
                  | false =>
                    have HE := hid (show rightP ts gs us sn ss lim own = (3, -1) by rw [hrest.out, HSB.out, hn1, hn2, if_pos (by rfl)])
                    rw [hn2] at ct2
                    clear hrest HSB hn1 hn2
                    go_wp2_with fail
                    refine (ct1 _).out.mono ?_
                    rintro e w2 ⟨rfl, hb2⟩
                    have b2 := bw3.trans (hb2.mono bw3.size)
                    have F2 := F3.below hb2
                    have t4 := (hb2.cell (p := ⟨w.heap.size, 4, none⟩) hp3).trans t4
                    go_wp2_with fail
                    refine (ct2 _).out.mono ?_
                    rintro e w4 ⟨rfl, hb4⟩
                    have b4 := b2.trans (hb4.mono b2.size)
                    have F4 := F2.below hb4
                    go_wp2_with fail
                    refine (bareF_any _ _).mono ?_
                    rintro e w9 ⟨rfl, hb9⟩
                    have F9 := F4.below hb9
                    have b9 := b4.trans (hb9.mono b4.size)
                    have q0 := F9.c0
                    have q1 := F9.c1
                    have q2 := F9.f0
                    have q3 := F9.f1
                    go_wp2
                    refine bodyPost_ret (v := .agg #[.int .i64 3, .int .i64 (-1)]) (by simp [results, Tryz.results35, go_sem, q0, q1]) rfl ?_
                    exact ⟨by rw [HE.out]; rfl, (b9.setCell (p := ⟨w.heap.size + 1, 0, none⟩) (by simp) _).setCell (p := ⟨w.heap.size + 1, 1, none⟩) (by simp) _⟩
                  | true =>
                    have HR := hid (show rightP ts gs us sn ss lim own = if lim < 512 ∨ 100000 < lim then (2, -1) else negoP own by rw [hrest.out, HSB.out, hn1, hn2, if_neg (by simp)])
                    rw [hn2] at ct2
                    clear hrest HSB hn1 hn2
                    go_wp2_with fail
                    refine (ct1 _).out.mono ?_
                    rintro e w2 ⟨rfl, hb2⟩
                    have b2 := bw3.trans (hb2.mono bw3.size)
                    have F2 := F3.below hb2
                    have t4 := (hb2.cell (p := ⟨w.heap.size, 4, none⟩) hp3).trans t4
                    have t5 := (hb2.cell (p := ⟨w.heap.size, 5, none⟩) hp3).trans t5
                    have t6 := (hb2.cell (p := ⟨w.heap.size, 6, none⟩) hp3).trans t6
                    have hp4 : w.heap.size < w2.heap.size := Nat.lt_of_lt_of_le hp3 hb2.size
                    go_wp2_with fail
                    refine (ct2 _).out.mono ?_
                    rintro e w4 ⟨rfl, hb4⟩
                    have b4 := b2.trans (hb4.mono b2.size)
                    have F4 := F2.below hb4
                    have t5 := (hb4.cell (p := ⟨w.heap.size, 5, none⟩) hp4).trans t5
                    have t6 := (hb4.cell (p := ⟨w.heap.size, 6, none⟩) hp4).trans t6
                    by_cases hl : lim < 512 ∨ 100000 < lim
                    · have cw := fun W => hid (within_false lim 512 100000 W hl)
                      have HE := hid (show rightP ts gs us sn ss lim own = (2, -1) by rw [HR.out, if_pos hl])
                      clear HR hl
                      go_wp2_with fail
                      refine (cw _).out.mono ?_
                      rintro e w8 ⟨rfl, hw8⟩
                      have hv8 := hw8.symm
                      clear hw8
                      subst hv8
                      go_wp2_with fail
                      refine (bareF_any _ _).mono ?_
                      rintro e w9 ⟨rfl, hb9⟩
                      have F9 := F4.below hb9
                      have b9 := b4.trans (hb9.mono b4.size)
                      have q0 := F9.c0
                      have q1 := F9.c1
                      have q2 := F9.f0
                      have q3 := F9.f1
                      go_wp2
                      refine bodyPost_ret (v := .agg #[.int .i64 2, .int .i64 (-1)]) (by simp [results, Tryz.results35, go_sem, q0, q1]) rfl ?_
                      exact ⟨by rw [HE.out]; rfl, (b9.setCell (p := ⟨w.heap.size + 1, 0, none⟩) (by simp) _).setCell (p := ⟨w.heap.size + 1, 1, none⟩) (by simp) _⟩
                    have cw := fun W => hid (within_true lim 512 100000 W (by omega) (by omega))
                    have HE := hid (show rightP ts gs us sn ss lim own = negoP own by rw [HR.out, if_neg hl])
                    have cn := fun W hb => hid (Cnew.out W hb)
                    unfold faultV at cn
                    clear HR hl
                    go_wp2_with fail
                    refine (cw _).out.mono ?_
                    rintro e w8 ⟨rfl, hw8⟩
                    have hv8 := hw8.symm
                    clear hw8
                    subst hv8
                    go_wp2_with fail
                    refine (cn _ b4).out.mono ?_
                    rintro e w9 ⟨⟨p, rfl, _, _⟩, hb9⟩
                    have F9 := F4.below hb9
                    have b9 := b4.trans (hb9.mono b4.size)
                    have bA := b9.alloc b9.size (.cells #[.int .i64 ((negoP own).1 : Nat), .int .i64 (negoP own).2] 34)
                    have FA := F9.below ((Below.refl _ _).alloc (Nat.le_refl _) (.cells #[.int .i64 ((negoP own).1 : Nat), .int .i64 (negoP own).2] 34))
                    have q0 := FA.c0
                    have q1 := FA.c1
                    have q2 := FA.f0
                    have q3 := FA.f1
                    go_wp2
                    refine bodyPost_ret (v := .agg #[.int .i64 ((negoP own).1 : Nat), .int .i64 (negoP own).2]) (by simp [results, Tryz.results35, go_sem, q0, q1]) rfl ?_
                    exact ⟨by rw [HE.out]; rfl, (bA.setCell (p := ⟨w.heap.size + 1, 0, none⟩) (by simp) _).setCell (p := ⟨w.heap.size + 1, 1, none⟩) (by simp) _⟩
end
end Go.Proofs.YtbimlijhgeajjaaGreatDoor
