/- Offers, one by one: by the document. -/
import Derived.Test.YtbimlijhgeajjaaGreatDoorChapFind
import Derived.Test.YtbimlijhgeajjaaGreatDoorNegoSt
import Derived.Test.YtbimlijhgeajjaaGreatDoorResultR
import Derived.Test.YtbimlijhgeajjaaGreatDoorParse
import Derived.Deep.DeepCutAuto
import Derived.Deep.CutBlock
import Derived.StillTailTactics
set_option linter.unusedSectionVars false
set_option linter.unusedSimpArgs false
set_option linter.unusedVariables false
namespace Go.Proofs.YtbimlijhgeajjaaGreatDoor
open Go Go.RowKit Go.Maps
set_option linter.unusedVariables false
set_option linter.unusedSectionVars false
set_option linter.unusedSimpArgs false
set_option maxRecDepth 100000
/-- a Nego of the document's -/
structure RNegoS (w : World) (B g : Nat) (mv rv : Value) (mine rec : PL) : Prop where
  blk : Blk w g 89 #[mv, rv]
  hov : PSl w mv mine
  hrv : w.ownsRow B 83 2 rv rec.length (pairCells rec)
  sg : rv.ownBlock ≠ some g
  so : FarO mv mine (fun k => k = g ∨ rv.ownBlock = some k)
theorem RNegoS.below {w w' : World} {B g : Nat} {ov rv : Value} {own rec : PL} (h : RNegoS w B g ov rv own rec) (hb : Below w.heap.size w w') : RNegoS w' B g ov rv own rec :=
  ⟨h.blk.below hb, h.hov.below hb, owns_below h.hrv hb, h.sg, h.so⟩
theorem ite_and1 {α : Type} (p q : Bool) (x y : α) : (if p = true ∧ q = false then x else y) = if (p && !q) = true then x else y := by cases p <;> cases q <;> rfl
theorem ite_and2 {α : Type} (p q : Bool) (x y : α) : (if p = true ∧ q = true then x else y) = if (p && q) = true then x else y := by cases p <;> cases q <;> rfl
def outR (own : PL) (offers rec : PL) (login disc : Bool) : PL × PL := if (offP offers rec login).1 = 0 then ansAll own login disc offers ([], rec) else ([], rec)
theorem SeenM.putF {w : World} {b n : Nat} {l : List (List UInt8)} (h : SeenM w b n l) (hn : n < 1000000) (s : List UInt8) (hs : s.length ≤ 9223372036854775807) (hc : l.contains s = false) :
    ∃ w', (Instr.mapUpdate 92 (.map (some b)) (.string (bs s)) (.bool false)).run Tryz.prog w = .ok () w' ∧ SeenM w' b (n + 1) l ∧ w.grownBy w' (some b) := by
  obtain ⟨w', hr, hf, hg⟩ := MapAs.put h textLaw Tryz.underlying92 (by unfold maxLen; omega) (textKey s hs) ⟨_, elemSeen false⟩
  refine ⟨w', hr, hf _ (by simpa [seenF, bs] using hc) (fun v hv => rfl), hg⟩
def RB1 (rec : PL) (login : Bool) (p b : Nat) (w : World) (i : Value) (wr : World) : Prop :=
  ∃ (k : Nat) (seen : List (List UInt8)), k ≤ rec.length ∧ i = .int .i64 (k : Nat) ∧ Hid (∀ y, seen.contains y = (((rec.take k).map (·.1)).contains y && login)) ∧ SeenM wr b k seen ∧ Blk wr p 34 #[.int .i64 0, .int .i64 0] ∧ b < wr.heap.size ∧ Below w.heap.size w wr
def RB2 (offers rec : PL) (login : Bool) (p b : Nat) (w : World) (i : Value) (wr : World) : Prop :=
  ∃ (k : Nat) (seen : List (List UInt8)), k ≤ offers.length ∧ i = .int .i64 (k : Nat) ∧ Hid (∀ y, seen.contains y = (((offers.take k).map (·.1)).contains y || ((rec.map (·.1)).contains y && login))) ∧ Hid (∀ j, j < k → twiceK offers rec login j = false) ∧
    SeenM wr b (rec.length + k) seen ∧ Blk wr p 34 #[.int .i64 0, .int .i64 0] ∧ b < wr.heap.size ∧ Below w.heap.size w wr
def RB3 (own offers rec : PL) (login disc : Bool) (p B g : Nat) (ov rv : Value) (w : World) (o i : Value) (wr : World) : Prop :=
  ∃ (k : Nat) (out r : PL) (rvk : Value), k ≤ offers.length ∧ i = .int .i64 (k : Nat) ∧ out.length ≤ k ∧ r.length ≤ rec.length + k ∧ wr.ownsRow w.heap.size 83 2 o out.length (pairCells out) ∧
    Blk wr g 89 #[ov, rvk] ∧ wr.ownsRow B 83 2 rvk r.length (pairCells r) ∧ (rvk.ownBlock = rv.ownBlock ∨ ∃ q, rvk.ownBlock = some q ∧ w.heap.size ≤ q) ∧
    (∀ q, o.ownBlock = some q → rvk.ownBlock ≠ some q) ∧ Hid (ansAll own login disc offers ([], rec) = ansAll own login disc (offers.drop k) (out, r)) ∧ KeptS (SN g rv) w wr ∧
    Blk wr p 34 #[.int .i64 0, .int .i64 0] ∧ o.ownBlock ≠ some p ∧ rvk.ownBlock ≠ some p
def RB4 (r : PL) (x : List UInt8) (W : World) (l j : Value) (wr : World) : Prop :=
  ∃ jj : Nat, jj ≤ r.length ∧ j = .int .i64 (jj : Nat) ∧ wr.ownsRow W.heap.size 83 2 l (without (r.take jj) x).length (pairCells (without (r.take jj) x)) ∧ Below W.heap.size W wr
def RAnsPost (own offers rec : PL) (login disc : Bool) (B g : Nat) (ov rv : Value) (w : World) (e : Ending) (w' : World) : Prop :=
  (∃ v rv', e = .returned (.tuple #[v, faultV (offP offers rec login).1 (offP offers rec login).2]) ∧ w'.ownsRow w.heap.size 83 2 v (outR own offers rec login disc).1.length (pairCells (outR own offers rec login disc).1) ∧
    RNegoS w' B g ov rv' own (outR own offers rec login disc).2 ∧ (rv'.ownBlock = rv.ownBlock ∨ ∃ q, rv'.ownBlock = some q ∧ w.heap.size ≤ q)) ∧ KeptS (SN g rv) w w'
section
variable (own offers rec : PL) (login disc : Bool) (B g : Nat) (ov rv v : Value) (w : World) (hN : RNegoS w B g ov rv own rec) (hB : B ≤ w.heap.size) (h : PSl w v offers) (hfar : FarO v offers (SN g rv))
  (hbd : PBd offers) (hn : (pairsR offers).1 = 0 → offers.length ≤ 60 ∧ ∀ k, (offers.getD k ([], [])).2.length ≤ 100000) (hrl : rec.length ≤ 100000) (hrb : ∀ k, (rec.getD k ([], [])).1.length ≤ 9223372036854775807)
  (hol : own.length ≤ 1000000) (hsz : ∀ k, (own.getD k ([], [])).2.length ≤ 100000) (hAS : ∀ w', KeptS (SN g rv) w w' → PT w' ∧ ML w')
include hN hB h hfar hbd hn hrl hrb hol hsz hAS
set_option maxHeartbeats 16000000 in
theorem rAnswer_all : Calls Tryz.prog 19 #[.pointer (some ⟨g, 0, none⟩), v, .bool login, .bool disc] w fun e w' => RAnsPost own offers rec login disc B g ov rv w e w' := by
  have hA := (Below.refl w.heap.size w).alloc (Nat.le_refl _) (.cells #[.int .i64 0, .int .i64 0] 34)
  have F0 := Blk.new w 34 #[.int .i64 0, .int .i64 0]
  have cp := hid (rpairsRight_any v offers _ (h.below hA) hbd)
  unfold PRightRPost faultV at cp
  have cis := fun k pl W => hid (faultIs_any k pl W)
  unfold faultV at cis
  have HF := hid F0; have HA := hid hA
  have hgl := hN.blk.lt
  clear F0 hA
  go_enter Tryz.func19, Tryz.ntmps19
  go_wp2_with fail
  refine cp.out.mono ?_
  rintro e w1 ⟨rfl, hb1⟩
  have F1 := HF.out.below hb1
  have b1 := HA.out.trans (hb1.mono HA.out.size)
  have hp1 := F1.lt
  have bB := b1.alloc b1.size (.cells #[.int .i64 ((pairsR offers).1 : Nat), .int .i64 (pairsR offers).2] 34)
  have F2 : Blk (w1.alloc (.cells #[.int .i64 ((pairsR offers).1 : Nat), .int .i64 (pairsR offers).2] 34)) w.heap.size 34 #[.int .i64 0, .int .i64 0] := F1.below ((Below.refl _ _).alloc (Nat.le_refl _) _)
  have p0 : (w1.alloc (.cells #[.int .i64 ((pairsR offers).1 : Nat), .int .i64 (pairsR offers).2] 34)).cell? ⟨w1.heap.size, 0, none⟩ = some (.int .i64 ((pairsR offers).1 : Nat)) := by simp
  have p1 : (w1.alloc (.cells #[.int .i64 ((pairsR offers).1 : Nat), .int .i64 (pairsR offers).2] 34)).cell? ⟨w1.heap.size, 1, none⟩ = some (.int .i64 (pairsR offers).2) := by simp
  go_wp2_with fail
  refine (cis _ _ _).out.mono ?_
  rintro e w2 ⟨rfl, hb2⟩
  have F3 := F2.below hb2
  have b2 := bB.trans (hb2.mono bB.size)
  have p0 := (hb2.cell (p := ⟨w1.heap.size, 0, none⟩) (by simp)).trans p0
  have p1 := (hb2.cell (p := ⟨w1.heap.size, 1, none⟩) (by simp)).trans p1
  by_cases hp0 : (pairsR offers).1 = 0
  · rw [decide_eq_true hp0]
    have hn60 := hn hp0
    have HAT := hid (fun k hk hb ha => offP_at offers rec login k hp0 hk hb ha)
    have HGD := hid (fun ha => offP_good offers rec login hp0 ha)
    have hF := h
    obtain ⟨sa, sc, rfl, _, _⟩ := hF
    have HS := hid h
    have HN := hid hN
    have hmm := @run_makeMap Tryz.prog
    have hM0 := SeenM.made w2
    have bM := b2.alloc b2.size (.map #[] 0)
    have FM : Blk (w2.alloc (.map #[] 0)) w.heap.size 34 #[.int .i64 0, .int .i64 0] := F3.below ((Below.refl _ _).alloc (Nat.le_refl _) _)
    have hmb : w2.heap.size < (w2.alloc (.map #[] 0)).heap.size := by simp
    have HM := hid hM0
    have HFM := hid FM
    have hwb : w.heap.size < w2.heap.size := by have := F3.lt; exact this
    obtain ⟨ra, rc, rfl⟩ := own_slice hN.hrv
    have n1 := (b2.cell (p := ⟨g, 1, none⟩) hgl).trans (hN.blk.cell 1)
    simp only [List.getElem?_toArray, List.getElem?_cons_zero, List.getElem?_cons_succ] at n1
    have HR := hid (psl_of_owns hN.hrv)
    have hgl2 : g < w2.heap.size := by omega
    clear h hN hn hp0 cp p0 p1 hM0 FM F1 F2 F3 bB hb1 hb2
    go_wp2
    go_loopw [42] (fun i wr => RB1 rec login w.heap.size w2.heap.size w i wr) (fun i _ => rec.length - (intOf i).toNat)
    case atStart => exact ⟨0, [], by omega, rfl, hid (fun y => by simp), HM.out, HFM.out, hmb, bM⟩
    case round =>
      obtain ⟨k, seen, hk, rfl, hse, hM, hF, hbb, hb⟩ := hrel
      have hBz := hb.size
      by_cases hlt : k < rec.length
      · obtain ⟨_, b, o, c, hveq, hbl, hcell⟩ := (HR.out.below hb).open_.resolve_left (by rintro ⟨rfl, _⟩; simp at hlt)
        cases hveq
        obtain ⟨g0, g1⟩ := hcell k hlt
        have hx1 := hrb k
        have HTK := hid (show ((rec.take (k + 1)).map (·.1)) = (rec.take k).map (·.1) ++ [(rec.getD k ([], [])).1] by rw [List.take_succ_eq_append_getElem hlt, List.map_append, List.getD, List.getElem?_eq_getElem hlt]; rfl)
        clear hcell
        generalize rec.getD k ([], []) = x at *
        obtain ⟨x1, x2⟩ := x
        simp only at *
        obtain ⟨W6, hW6⟩ : ∃ W6, wr.alloc (.cells #[.string (bs x1), .string (bs x2)] 83) = W6 := ⟨_, rfl⟩
        have hA6 : Below wr.heap.size wr W6 := by rw [← hW6]; exact (Below.refl _ _).alloc (Nat.le_refl _) _
        have p0 : W6.cell? ⟨wr.heap.size, 0, none⟩ = some (.string (bs x1)) := by rw [← hW6]; simp
        have p1 : W6.cell? ⟨wr.heap.size, 1, none⟩ = some (.string (bs x2)) := by rw [← hW6]; simp
        have hM6 := MapAs.below hM hA6
        have hF6 := hF.below hA6
        have hlt6 : wr.heap.size < W6.heap.size := by rw [← hW6]; simp
        cases login with
        | true =>
          obtain ⟨W7, hput, hM7, hg7⟩ := SeenM.put hM6 (by omega) x1 hx1
          have b7 := (hb.trans (hA6.mono hBz)).grown hg7 (by omega) (fun j hj => by cases hj; omega)
          have hF7 := blk_grown hF6 hg7 (by intro e; have := Option.some.inj e; omega)
          have HSE := hid (show ∀ y, (x1 :: seen).contains y = (((rec.take (k + 1)).map (·.1)).contains y && true) from fun y => by
            rw [HTK.out, List.contains_append, List.contains_cons, hse.out, Bool.and_true, Bool.and_true]
            simp only [List.contains_cons, List.contains_nil, Bool.or_false]
            rw [Bool.or_comm])
          have hz7 := hg7.size
          clear hse
          go_wp2
          exact ⟨⟨k + 1, x1 :: seen, by omega, by go_num, hid HSE.out, hM7, hF7, by omega, b7⟩, by simp [intOf]; omega⟩
        | false =>
          have hnc : seen.contains x1 = false := by rw [hse.out, Bool.and_false]
          obtain ⟨W7, hput, hM7, hg7⟩ := SeenM.putF hM6 (by omega) x1 hx1 hnc
          have b7 := (hb.trans (hA6.mono hBz)).grown hg7 (by omega) (fun j hj => by cases hj; omega)
          have hF7 := blk_grown hF6 hg7 (by intro e; have := Option.some.inj e; omega)
          have HSE := hid (show ∀ y, seen.contains y = (((rec.take (k + 1)).map (·.1)).contains y && false) from fun y => by
            rw [hse.out, Bool.and_false, Bool.and_false])
          have hz7 := hg7.size
          clear hse hnc
          go_wp2
          exact ⟨⟨k + 1, seen, by omega, by go_num, hid HSE.out, hM7, hF7, by omega, b7⟩, by simp [intOf]; omega⟩
      · obtain rfl : k = rec.length := by omega
        rw [List.take_length] at hse
        have HSE1 := hse
        have HM1 := hid hM
        have HF1 := hid hF
        have Hb1 := hid hb
        have hlt2 : ¬ ((rec.length : Int) < (rec.length : Int)) := by omega
        clear hse hM hF hb hlt hk hBz n1 HM HFM hmb bM
        rename World => wo
        go_wp2
        go_loopw [53] (fun i wr => RB2 offers rec login w.heap.size w2.heap.size w i wr) (fun i _ => offers.length - (intOf i).toNat)
        case atStart => exact ⟨0, seen, by omega, rfl, hid (fun y => by rw [HSE1.out]; simp), hid (fun j hj => absurd hj (by omega)), HM1.out, HF1.out, hbb, Hb1.out⟩
        case round =>
          clear hlt2 hbb
          obtain ⟨k, seen, hk, rfl, hse, HA, hM, hF, hbb, hb⟩ := hrel
          have hBz := hb.size
          have q0 : wr.cell? ⟨w.heap.size, 0, none⟩ = some (.int .i64 0) := hF.cell 0
          have q1 : wr.cell? ⟨w.heap.size, 1, none⟩ = some (.int .i64 0) := hF.cell 1
          have q2 : wr.frozen? ⟨w.heap.size, 0, none⟩ = false := hF.free 0
          have q3 : wr.frozen? ⟨w.heap.size, 1, none⟩ = false := hF.free 1
          by_cases hlt : k < offers.length
          · obtain ⟨_, b, o, c, hveq, hbl, hcell⟩ := (HS.out.below hb).open_.resolve_left (by rintro ⟨rfl, _⟩; simp at hlt)
            cases hveq
            obtain ⟨g0, g1⟩ := hcell k hlt
            have hx1 := (hbd.2 k).1
            have HAT := hid (fun hb0 => HAT.out k hlt hb0 HA.out)
            have HBK := hid (show twiceK offers rec login k = seen.contains (offers.getD k ([], [])).1 by unfold twiceK; rw [hse.out])
            have HST := hid (fun (ht : twiceK offers rec login k = false) => show ∀ j, j < k + 1 → twiceK offers rec login j = false from fun j hj => by
              rcases Nat.lt_or_ge j k with h' | h'
              · exact HA.out j h'
              · obtain rfl : j = k := by omega
                exact ht)
            have HTK := hid (show ((offers.take (k + 1)).map (·.1)) = (offers.take k).map (·.1) ++ [(offers.getD k ([], [])).1] by rw [List.take_succ_eq_append_getElem hlt, List.map_append, List.getD, List.getElem?_eq_getElem hlt]; rfl)
            clear hcell HA
            generalize offers.getD k ([], []) = x at *
            obtain ⟨x1, x2⟩ := x
            simp only at *
            obtain ⟨W6, hW6⟩ : ∃ W6, wr.alloc (.cells #[.string (bs x1), .string (bs x2)] 83) = W6 := ⟨_, rfl⟩
            have hA6 : Below wr.heap.size wr W6 := by rw [← hW6]; exact (Below.refl _ _).alloc (Nat.le_refl _) _
            have b6 := hb.trans (hA6.mono hBz)
            have p0 : W6.cell? ⟨wr.heap.size, 0, none⟩ = some (.string (bs x1)) := by rw [← hW6]; simp
            have p1 : W6.cell? ⟨wr.heap.size, 1, none⟩ = some (.string (bs x2)) := by rw [← hW6]; simp
            have hM6 := MapAs.below hM hA6
            have hF6 := hF.below hA6
            have hlt6 : wr.heap.size < W6.heap.size := by rw [← hW6]; simp
            have q0 : W6.cell? ⟨w.heap.size, 0, none⟩ = some (.int .i64 0) := hF6.cell 0
            have q1 : W6.cell? ⟨w.heap.size, 1, none⟩ = some (.int .i64 0) := hF6.cell 1
            have q2 : W6.frozen? ⟨w.heap.size, 0, none⟩ = false := hF6.free 0
            have q3 : W6.frozen? ⟨w.heap.size, 1, none⟩ = false := hF6.free 1
            have hlk := SeenM.look hM6 x1 hx1
            cases hcs : seen.contains x1 with
            | true =>
              rw [hcs] at hlk HBK
              have HE := hid (show offP offers rec login = (9, (k : Int)) from HAT.out HBK.out)
              have HO := hid (show outR own offers rec login disc = ([], rec) by unfold outR; rw [HE.out]; rfl)
              have HNB := hid HN.out
              clear HAT HST HGD HBK hcs hse HTK
              go_wp2
              refine bodyPost_ret (v := .tuple #[.slice none 0 0, .agg #[.int .i64 9, .int .i64 (k : Nat)]]) (by simp [results, Tryz.results19, go_sem, q0, q1]) rfl ?_
              have bX := (b6.setCell (p := ⟨w.heap.size, 0, none⟩) (Nat.le_refl _) (.int .i64 9)).setCell (p := ⟨w.heap.size, 1, none⟩) (Nat.le_refl _) (.int .i64 (k : Nat))
              exact ⟨⟨_, _, by rw [HE.out]; rfl, by rw [HO.out]; exact World.ownsRow_nil _ _ _ _, by rw [HO.out]; exact HNB.out.below bX, .inl rfl⟩, (KeptS.refl _ _).below bX⟩
            | false =>
              rw [hcs] at hlk HBK
              have hS := hid (HST.out HBK.out)
              obtain ⟨W7, hput, hM7, hg7⟩ := SeenM.put hM6 (by omega) x1 hx1
              have b7 := b6.grown hg7 (by omega) (fun j hj => by cases hj; omega)
              have hF7 := blk_grown hF6 hg7 (by intro e; have := Option.some.inj e; omega)
              have HSE := hid (show ∀ y, (x1 :: seen).contains y = (((offers.take (k + 1)).map (·.1)).contains y || ((rec.map (·.1)).contains y && login)) from fun y => by
                rw [HTK.out, List.contains_append, List.contains_cons, hse.out]
                simp only [List.contains_cons, List.contains_nil, Bool.or_false]
                cases (y == x1) <;> cases ((offers.take k).map (·.1)).contains y <;> simp)
              have hz7 := hg7.size
              clear hse HAT HST HGD HBK hcs HTK
              go_wp2
              exact ⟨⟨k + 1, x1 :: seen, by omega, by go_num, hid HSE.out, hid hS.out, hM7, hF7, by omega, b7⟩, by simp [intOf]; omega⟩
          · obtain rfl : k = offers.length := by omega
            have HE := hid (HGD.out HA.out)
            have HO := hid (show outR own offers rec login disc = ansAll own login disc offers ([], rec) by unfold outR; rw [HE.out]; rfl)
            have HK0 := hid ((KeptS.refl (SN g (.slice ra rec.length rc)) w).below hb)
            have HB0 := hid (HN.out.blk.below hb)
            have HR0 := hid (owns_below HN.out.hrv hb)
            have HF0 := hid hF
            have hpr : (Value.slice ra rec.length rc).ownBlock ≠ some w.heap.size := fun e => by have := (HN.out.hrv.lt _ e).2; omega
            have hlt3 : ¬ ((offers.length : Int) < (offers.length : Int)) := by omega
            clear HAT HGD HA hse hM hF hb hBz hbb hlt hk HM1 HF1 Hb1 HSE1 q0 q1 q2 q3
            rename World => wo2
            go_wp2
            go_loopw [16, 70] (fun o i wr => RB3 own offers rec login disc w.heap.size B g ov (.slice ra rec.length rc) w o i wr) (fun _ i _ => offers.length - (intOf i).toNat)
            case atStart => exact ⟨0, [], rec, _, by omega, rfl, by simp, by omega, World.ownsRow_nil _ _ _ _, HB0.out, HR0.out, .inl rfl, fun q hq => by simp [Value.ownBlock] at hq, hid rfl, HK0.out, HF0.out, by simp [Value.ownBlock], hpr⟩
            case round =>
              clear HB0 HR0 HK0 HF0 hlt3
              obtain ⟨k, out, r, rvk, hk, rfl, hol1, hrl1, hown, hBk, hRk, hrbk, hap, HX, HK, hF, hoF, hrF⟩ := hrel
              have hwz := HK.size
              obtain ⟨A1, c1, rfl⟩ := own_slice hRk
              by_cases hlt : k < offers.length
              · obtain ⟨_, b, o, c, hveq, hbl, hcell⟩ := (HS.out.kept hfar HK).open_.resolve_left (by rintro ⟨rfl, _⟩; simp at hlt)
                cases hveq
                obtain ⟨g0, g1⟩ := hcell k hlt
                have hx1 := (hbd.2 k).1
                have hx2 := hn60.2 k
                have HDR := hid ((ansAll_drop own login disc offers k (out, r) hlt))
                clear hcell
                generalize offers.getD k ([], []) = x at *
                obtain ⟨x1, x2⟩ := x
                simp only at *
                obtain ⟨W6, hW6⟩ : ∃ W6, wr.alloc (.cells #[.string (bs x1), .string (bs x2)] 83) = W6 := ⟨_, rfl⟩
                have hA6 : Below wr.heap.size wr W6 := by rw [← hW6]; exact (Below.refl _ _).alloc (Nat.le_refl _) _
                have p0 : W6.cell? ⟨wr.heap.size, 0, none⟩ = some (.string (bs x1)) := by rw [← hW6]; simp
                have p1 : W6.cell? ⟨wr.heap.size, 1, none⟩ = some (.string (bs x2)) := by rw [← hW6]; simp
                have hlt6 : wr.heap.size < W6.heap.size := by rw [← hW6]; simp
                have K6 := HK.below hA6
                have hrg : (Value.slice A1 r.length c1).ownBlock ≠ some g := by
                  rcases hrbk with h | ⟨q, h, hq⟩
                  · rw [h]; exact HN.out.sg
                  · rw [h]; intro e; have := Option.some.inj e; omega
                have S6 : NSt 89 w (.slice ra rec.length rc) ov B g wr.heap.size x1 x2 W6 (.slice A1 r.length c1) r u16 out :=
                  ⟨hBk.below hA6, by rw [← hW6]; exact Blk.new _ _ _, owns_below hRk hA6, owns_below hown hA6, hrbk, hap, fun e => by have := (hRk.lt _ e).2; omega, fun e => by have := (hown.lt _ e).2; omega, hrg, hgl, by omega, K6⟩
                have F6 := hid (hF.below hA6)
                have hpF := hF.lt
                have HOF := hid hoF
                have HRF := hid hrF
                have HX2 := hid (HX.out.trans HDR.out)
                have HS6 := hid S6
                have cK := fun W => hid (keyOf_any x1 W)
                have cO := fun W (hb : Below W6.heap.size W6 W) => hid (rOwn_any g ov (.slice A1 r.length c1) x1 W (S6.bN.below hb) hx1 own (HN.out.hov.kept HN.out.so (K6.below hb)) (by omega))
                have cF := fun W => hid (rfits_any x1 x2 W hx2)
                have hol2 := ofP_len (key := x1) hsz (by omega)
                have cR := fun W (hb : Below W6.heap.size W6 W) => hid (rresult_any x1 x2 (ofP own x1).1 W hx2 hol2 (hAS _ (K6.below hb)).1 (hAS _ (K6.below hb)).2)
                have HNN := hid (@ansP_none own (x1, x2) login disc)
                have HNS := hid (fun k h => @ansP_some own (x1, x2) login disc k h)
                clear K6 hown hBk hRk HK hap hrbk HX HDR hA6 S6 hrg hF hoF hrF
                simp only [recP] at HX2
                simp only at HNN HNS
                cases hfk : findK keyRows x1 with
                | none =>
                  have hA := HNN.out hfk
                  rw [hA] at HX2
                  simp only [if_true, reduceCtorEq, if_false] at HX2
                  have cK := cK W6
                  rw [hfk] at cK
                  obtain ⟨n0, k1, k2, k3, n4, c5, c6, hz⟩ : ∃ n0 k1 k2 k3 n4 c5 c6, keyVal none = .agg #[.string n0, .int .i64 k1, .int .i64 k2, .int .i64 k3, .string n4, .bool c5, .bool c6] := ⟨_, _, _, _, _, _, _, rfl⟩
                  rw [hz] at cK
                  simp only [keyErr] at cK
                  clear HNN HNS hfk hA cF cR hz
                  go_wp2_with fail
                  refine cK.out.mono ?_
                  rintro e w7 ⟨rfl, hb7⟩
                  obtain ⟨W8, hW8⟩ : ∃ W8, w7.alloc (.cells #[.string n0, .int .i64 k1, .int .i64 k2, .int .i64 k3, .string n4, .bool c5, .bool c6] 125) = W8 := ⟨_, rfl⟩
                  have hA8 : Below w7.heap.size w7 W8 := by rw [← hW8]; exact (Below.refl _ _).alloc (Nat.le_refl _) _
                  have b8 : Below W6.heap.size W6 W8 := hb7.trans (hA8.mono hb7.size)
                  have p0 := (b8.cell (p := ⟨wr.heap.size, 0, none⟩) hlt6).trans p0
                  have p1 := (b8.cell (p := ⟨wr.heap.size, 1, none⟩) hlt6).trans p1
                  have hlt8 : wr.heap.size < W8.heap.size := Nat.lt_of_lt_of_le hlt6 b8.size
                  go_wp2_with fail
                  refine (cO _ b8).out.mono ?_
                  rintro e w9 ⟨rfl, hb9⟩
                  have b9 : Below W6.heap.size W6 w9 := b8.trans (hb9.mono b8.size)
                  have p0 := (hb9.cell (p := ⟨wr.heap.size, 0, none⟩) hlt8).trans p0
                  have p1 := (hb9.cell (p := ⟨wr.heap.size, 1, none⟩) hlt8).trans p1
                  have S9 := hid (HS6.out.below b9)
                  have F9 := hid (F6.out.below b9)
                  clear hW6 hW8 hA8 HS6 F6 cO
                  have hzw9 := S9.out.wW
                  go_wp2_with (at_builtin; refine list_append_at rfl (.tmp 134) (.tmp 139) 28 rfl w.heap.size 83 (.agg #[.string ⟨#[]⟩, .string ⟨#[]⟩]) 2 32 Tryz.underlying28 infoPair rfl (by decide) _ out.length (pairCells out) rfl (S9.out.hO.alloc _) ⟨w9.heap.size, 0, none⟩ 1 1 [.string (bs x1), .string ⟨#[78, 111, 116, 85, 110, 100, 101, 114, 115, 116, 111, 111, 100]⟩] rfl rfl (cell_two_new _ _ _ _) (by simp [Value.oneCell']) (by unfold maxLen; omega) (by omega) (by simp; omega) ?_; intro v' wA hownA hgrow hat; have SA := hid (NSt.app (a1 := notU) S9.out hgrow hownA hat); have FA := hid (blk_grown (F9.out.below ((Below.refl w9.heap.size w9).alloc (Nat.le_refl _) _)) hgrow HOF.out); have HOA := hid (show v'.ownBlock ≠ some w.heap.size from fun e => by
                    rcases hat with h1 | h1
                    · exact HOF.out (h1 ▸ e)
                    · rw [h1] at e; have h2 := Option.some.inj e; simp at h2; omega); have hzA := SA.out.wW; have n1 : wA.cell? ⟨g, 1, none⟩ = some (.slice A1 r.length c1) := SA.out.bN.cell 1; have p0 : wA.cell? ⟨wr.heap.size, 0, none⟩ = some (.string (bs x1)) := SA.out.bP.cell 0; clear hownA hgrow hat)
                  exact ⟨⟨k + 1, out ++ [(x1, notU)], r, _, by omega, by go_num, by first | omega | (simp; omega), by omega, SA.out.hO, SA.out.bN, SA.out.hR, SA.out.rb, SA.out.ap, hid HX2.out, SA.out.K, FA.out, HOA.out, HRF.out⟩, by simp [intOf]; omega⟩
                | some kr =>
                  have HA := HNS.out kr hfk
                  have cK := cK W6
                  rw [hfk] at cK
                  simp only [keyVal, keyErr, KR.cells] at cK
                  clear HNN HNS hfk
                  go_wp2_with fail
                  refine cK.out.mono ?_
                  rintro e w7 ⟨rfl, hb7⟩
                  obtain ⟨W8, hW8⟩ : ∃ W8, w7.alloc (.cells #[.string (bs kr.name), .int .i64 (dnum kr.lk : Int), .int .i64 (dnum kr.ll : Int), .int .i64 (dnum kr.lh : Int), .string (bs kr.dv), .bool (kr.no == [78]), .bool (kr.lo == [76])] 125) = W8 := ⟨_, rfl⟩
                  have hA8 : Below w7.heap.size w7 W8 := by rw [← hW8]; exact (Below.refl _ _).alloc (Nat.le_refl _) _
                  have b8 : Below W6.heap.size W6 W8 := hb7.trans (hA8.mono hb7.size)
                  have p0 := (b8.cell (p := ⟨wr.heap.size, 0, none⟩) hlt6).trans p0
                  have p1 := (b8.cell (p := ⟨wr.heap.size, 1, none⟩) hlt6).trans p1
                  have d1 : W8.cell? ⟨w7.heap.size, 1, none⟩ = some (.int .i64 (dnum kr.lk : Int)) := by rw [← hW8]; simp
                  have d5 : W8.cell? ⟨w7.heap.size, 5, none⟩ = some (.bool (kr.no == [78])) := by rw [← hW8]; simp
                  have d6 : W8.cell? ⟨w7.heap.size, 6, none⟩ = some (.bool (kr.lo == [76])) := by rw [← hW8]; simp
                  have hlt8 : wr.heap.size < W8.heap.size := Nat.lt_of_lt_of_le hlt6 b8.size
                  have hkb8 : w7.heap.size < W8.heap.size := by rw [← hW8]; simp
                  go_wp2_with fail
                  refine (cO _ b8).out.mono ?_
                  rintro e w9 ⟨rfl, hb9⟩
                  have b9 : Below W6.heap.size W6 w9 := b8.trans (hb9.mono b8.size)
                  have p0 := (hb9.cell (p := ⟨wr.heap.size, 0, none⟩) hlt8).trans p0
                  have p1 := (hb9.cell (p := ⟨wr.heap.size, 1, none⟩) hlt8).trans p1
                  have d1 := (hb9.cell (p := ⟨w7.heap.size, 1, none⟩) hkb8).trans d1
                  have d5 := (hb9.cell (p := ⟨w7.heap.size, 5, none⟩) hkb8).trans d5
                  have d6 := (hb9.cell (p := ⟨w7.heap.size, 6, none⟩) hkb8).trans d6
                  have hlt9 : wr.heap.size < w9.heap.size := Nat.lt_of_lt_of_le hlt8 hb9.size
                  have hkb9 : w7.heap.size < w9.heap.size := Nat.lt_of_lt_of_le hkb8 hb9.size
                  have S9 := hid (HS6.out.below b9)
                  have F9 := hid (F6.out.below b9)
                  have b9c := hid b9
                  clear hW6 hW8 hA8 HS6 F6 cO
                  generalize hAA : ansP own (x1, x2) login disc = A at *
                  obtain ⟨a1, a2⟩ := A
                  clear hAA
                  generalize ofP own x1 = op at *
                  obtain ⟨o1, o2⟩ := op
                  simp only at *
                  generalize resP x1 x2 o1 = R at *
                  obtain ⟨r1, r2⟩ := R
                  simp only at *
                  generalize fitsP x1 x2 = F at *
                  generalize (kr.no == [78]) = bn at *
                  generalize (kr.lo == [76]) = bl at *
                  generalize dnum kr.lk = kd at *
                  go_upto_block 6 with fail
                  go_cut [19, 20] (fun s t wx => s = .string (bs a1) ∧ t = .string (bs a2) ∧ Below w9.heap.size w9 wx)
                  case first =>
                    have br := Below.refl w9.heap.size w9
                    go_upto_region 30 with fail
                    go_cut [103] (fun s wx => s = .bool (bl && !login) ∧ wx = w9)
                    case first =>
                      clear HA cF cR br
                      cases bl <;> cases login
                      all_goals
                        go_wp2
                        go_meet
                        exact ⟨rfl, rfl⟩
                    case rest =>
                    obtain ⟨rfl, rfl⟩ := hcut
                    rw [ite_and1] at HA
                    generalize (bl && !login) = b103 at *
                    cases b103 with
                    | true =>
                      have HF := HA.trans (if_pos rfl)
                      obtain ⟨rfl, rfl⟩ := Prod.mk.inj HF
                      clear HA HF
                      go_wp2
                      go_meet
                      exact ⟨rfl, rfl, br⟩
                    | false =>
                    have HE1 := HA.trans (if_neg (by simp))
                    clear HA
                    go_upto_region 32 with fail
                    go_cut [110] (fun s wx => s = .bool (bn && disc) ∧ wx = wc)
                    case first =>
                      clear HE1 cF cR br
                      cases bn <;> cases disc
                      all_goals
                        go_wp2
                        go_meet
                        exact ⟨rfl, rfl⟩
                    case rest =>
                    obtain ⟨rfl, rfl⟩ := hcut
                    rw [ite_and2] at HE1
                    generalize (bn && disc) = b110 at *
                    cases b110 with
                    | true =>
                      have HF := HE1.trans (if_pos rfl)
                      obtain ⟨rfl, rfl⟩ := Prod.mk.inj HF
                      clear HE1 HF
                      go_wp2
                      go_meet
                      exact ⟨rfl, rfl, br⟩
                    | false =>
                    have HE2 := HE1.trans (if_neg (by simp))
                    clear HE1
                    go_wp2_with fail
                    refine (cF _).out.mono ?_
                    rintro e wX ⟨rfl, hbX⟩
                    have p0 := (hbX.cell (p := ⟨wr.heap.size, 0, none⟩) hlt9).trans p0
                    have p1 := (hbX.cell (p := ⟨wr.heap.size, 1, none⟩) hlt9).trans p1
                    have d1 := (hbX.cell (p := ⟨w7.heap.size, 1, none⟩) hkb9).trans d1
                    by_cases hF0 : F = 0
                    · subst hF0
                      have HE3 := HE2.trans (if_neg (by simp))
                      clear HE2
                      by_cases hk : kd = 6 ∨ kd = 7
                      · have HF := HE3.trans (if_pos hk)
                        obtain ⟨rfl, rfl⟩ := Prod.mk.inj HF
                        clear HE3 HF cR
                        rcases hk with rfl | rfl
                        all_goals
                          go_wp2
                          go_meet
                          exact ⟨rfl, rfl, hbX⟩
                      · have HE4 := HE3.trans (if_neg hk)
                        clear HE3
                        have e6 : ((kd : Int) == 6) = false := by rw [beq_eq_false_iff_ne]; omega
                        have e7 : ((kd : Int) == 7) = false := by rw [beq_eq_false_iff_ne]; omega
                        clear hk
                        have cR := cR _ (b9c.out.trans (hbX.mono b9c.out.size))
                        go_wp2_with fail
                        refine cR.out.mono ?_
                        rintro e wY ⟨rfl, hbY⟩
                        have bXY := hbX.trans (hbY.mono hbX.size)
                        by_cases hr : r2 = 0
                        · have HF := HE4.trans (if_neg (by simpa using hr))
                          obtain ⟨rfl, rfl⟩ := Prod.mk.inj HF
                          subst hr
                          clear HE4 HF
                          go_wp2
                          go_meet
                          exact ⟨rfl, rfl, bXY⟩
                        · have HF := HE4.trans (if_pos hr)
                          obtain ⟨rfl, rfl⟩ := Prod.mk.inj HF
                          have hr2 : ((r2 : Int) != 0) = true := by simp; omega
                          clear HE4 HF hr
                          go_wp2
                          go_meet
                          exact ⟨rfl, rfl, bXY⟩
                    · have HF := HE2.trans (if_pos hF0)
                      obtain ⟨rfl, rfl⟩ := Prod.mk.inj HF
                      have hF2 : ((F : Int) != 0) = true := by simp; omega
                      clear HE2 HF hF0
                      go_wp2
                      go_meet
                      exact ⟨rfl, rfl, hbX⟩
                  case rest =>
                    obtain ⟨rfl, rfl, hbC⟩ := hcut
                    have p0 := (hbC.cell (p := ⟨wr.heap.size, 0, none⟩) hlt9).trans p0
                    have S10 := hid (S9.out.below hbC)
                    have F10 := hid (F9.out.below hbC)
                    clear S9 F9 HA cF cR d1 d5 d6 hkb9 hkb8 hlt8 p1 hb9 b9 b8
                    by_cases h1 : a1 = []
                    · have e1 : (a1 == []) = true := by rw [h1]; rfl
                      rw [if_pos h1] at HX2
                      clear h1
                      by_cases h2 : a2 = []
                      · have e2 : (a2 == []) = true := by rw [h2]; rfl
                        rw [if_pos h2] at HX2
                        clear h2
                        go_wp2
                        exact ⟨⟨k + 1, out, r, _, by omega, by go_num, by first | omega | (simp; omega), by omega, S10.out.hO, S10.out.bN, S10.out.hR, S10.out.rb, S10.out.ap, hid HX2.out, S10.out.K, F10.out, HOF.out, HRF.out⟩, by simp [intOf]; omega⟩
                      · have e2 : (a2 == []) = false := beq_eq_false_iff_ne.2 h2
                        rw [if_neg h2] at HX2
                        clear h2
                        have n1 : wc.cell? ⟨g, 1, none⟩ = some (.slice A1 r.length c1) := S10.out.bN.cell 1
                        have HRP := hid (psl_of_owns S10.out.hR)
                        have hpW := S10.out.bP.lt
                        have hgW := S10.out.bN.lt
                        have hzW := S10.out.wW
                        have p0 : wc.cell? ⟨wr.heap.size, 0, none⟩ = some (.string (bs x1)) := S10.out.bP.cell 0
                        generalize hpb : wr.heap.size = pb at *
                        clear hpb
                        go_wp2
                        clear n1
                        go_loopw [27, 148] (fun l j wr => RB4 r x1 wc l j wr) (fun _ j _ => r.length - (intOf j).toNat)
                        case atStart => exact ⟨0, by omega, rfl, by simpa [without, pairCells] using World.ownsRow_nil _ _ _ _, Below.refl _ _⟩
                        case round =>
                          obtain ⟨jj, hj, rfl, hown, hc⟩ := hrel
                          have hcz := hc.size
                          have p0 := (hc.cell (p := ⟨pb, 0, none⟩) hpW).trans p0
                          have hpw : pb < wr.heap.size := by omega
                          have hwl : (without (r.take jj) x1).length ≤ r.length := Nat.le_trans (List.length_filter_le _ _) (by rw [List.length_take]; omega)
                          by_cases hjl : jj < r.length
                          · obtain ⟨_, b2, o2, c2, hveq, hbl2, hcell⟩ := (HRP.out.below hc).open_.resolve_left (by rintro ⟨rfl, _⟩; simp at hjl)
                            cases hveq
                            obtain ⟨g0, g1⟩ := hcell jj hjl
                            have HWT := hid (without_take r x1 jj hjl)
                            clear hcell
                            generalize hrr : without (r.take jj) x1 = rr at *
                            generalize r.getD jj ([], []) = y at *
                            obtain ⟨y1, y2⟩ := y
                            simp only at *
                            clear hrr
                            obtain ⟨Wq, hWq⟩ : ∃ Wq, wr.alloc (.cells #[.string (bs y1), .string (bs y2)] 83) = Wq := ⟨_, rfl⟩
                            have hAq : Below wr.heap.size wr Wq := by rw [← hWq]; exact (Below.refl _ _).alloc (Nat.le_refl _) _
                            have q0 : Wq.cell? ⟨wr.heap.size, 0, none⟩ = some (.string (bs y1)) := by rw [← hWq]; simp
                            have q1 : Wq.cell? ⟨wr.heap.size, 1, none⟩ = some (.string (bs y2)) := by rw [← hWq]; simp
                            have p0 := (hAq.cell (p := ⟨pb, 0, none⟩) hpw).trans p0
                            have hzq : wr.heap.size < Wq.heap.size := by rw [← hWq]; simp
                            have HOq := hid (owns_below hown hAq)
                            have Hcq := hid (hc.trans (hAq.mono hcz))
                            cases hyx : (y1 == x1) with
                            | true =>
                              rw [hyx] at HWT
                              have HST := hid (show without (r.take (jj + 1)) x1 = rr by rw [HWT.out]; simp)
                              clear HWT hown hc
                              go_wp2
                              exact ⟨⟨jj + 1, by omega, by go_num, by rw [HST.out]; exact HOq.out, Hcq.out⟩, by simp [intOf]; omega⟩
                            | false =>
                              rw [hyx] at HWT
                              have HST := hid (show without (r.take (jj + 1)) x1 = rr ++ [(y1, y2)] by rw [HWT.out]; simp)
                              clear HWT hown hc
                              go_wp2_with (at_builtin; refine list_append_own rfl (.tmp 157) (.tmp 159) 28 rfl wc.heap.size 83 (.agg #[.string ⟨#[]⟩, .string ⟨#[]⟩]) 2 32 Tryz.underlying28 infoPair rfl (by decide) _ rr.length (pairCells rr) rfl (HOq.out.alloc _) ⟨Wq.heap.size, 0, none⟩ 1 1 [.string (bs y1), .string (bs y2)] rfl rfl (cell_two_new _ _ _ _) (by simp [Value.oneCell']) (by unfold maxLen; omega) (by omega) (by simp; omega) ?_; intro v' wB hownB hgrow _)
                              exact ⟨⟨jj + 1, by omega, by go_num, by rw [HST.out, pairCells_snoc, List.length_append]; exact hownB, below_append (Hcq.out.alloc (by omega) _) (HOq.out.alloc _) hgrow (by simp; omega)⟩, by simp [intOf]; omega⟩
                          · obtain rfl : jj = r.length := by omega
                            rw [List.take_length] at hown hwl
                            have n1 : wr.cell? ⟨g, 1, none⟩ = some (.slice A1 r.length c1) := (S10.out.below hc).bN.cell 1
                            have HOw := hid hown
                            have Hc := hid hc
                            have hlt4 : ¬ ((r.length : Int) < (r.length : Int)) := by omega
                            clear hown hc hjl hj
                            generalize hrr : without r x1 = rr at *
                            go_wp2_with (at_builtin; refine list_append_own rfl (.tmp 163) (.tmp 168) 28 rfl wc.heap.size 83 (.agg #[.string ⟨#[]⟩, .string ⟨#[]⟩]) 2 32 Tryz.underlying28 infoPair rfl (by decide) _ rr.length (pairCells rr) rfl (HOw.out.alloc _) ⟨wr.heap.size, 0, none⟩ 1 1 [.string (bs x1), .string (bs a2)] rfl rfl (cell_two_new _ _ _ _) (by simp [Value.oneCell']) (by unfold maxLen; omega) (by omega) (by simp; omega) ?_; intro v' wB hownB hgrow _; have bB := hid (below_append (Hc.out.alloc (by omega) _) (HOw.out.alloc _) hgrow (by simp; omega)); have SB := S10.out.newrec (rv2 := v') (r2 := rr ++ [(x1, a2)]) bB.out (by rw [pairCells_snoc, List.length_append]; exact hownB) hB (by simp); have HSB := hid SB.1; have n1 : wB.cell? ⟨g, 1, none⟩ = some (.slice A1 r.length c1) := SB.2.cell 1; have f1 : wB.frozen? ⟨g, 1, none⟩ = false := SB.2.free 1; have HRB2 := hid (show v'.ownBlock ≠ some w.heap.size from fun e => by have h1 := (hownB.lt _ e).1; have h2 := F10.out.lt; omega); obtain ⟨A2, c2, rfl⟩ := own_slice hownB; have FB := hid ((F10.out.below bB.out).far (p := ⟨g, 1, none⟩) (by simp only; omega) (.slice A2 (rr.length + 1) c2)); clear SB hownB hgrow)
                            go_wp2
                            exact ⟨⟨k + 1, out, rr ++ [(x1, a2)], _, by omega, by go_num, by first | omega | (simp; omega), by rw [List.length_append]; simp only [List.length_cons, List.length_nil]; omega, HSB.out.hO, HSB.out.bN, HSB.out.hR, HSB.out.rb, HSB.out.ap, hid HX2.out, HSB.out.K, FB.out, HOF.out, HRB2.out⟩, by simp [intOf]; omega⟩
                    · have e1 : (a1 == []) = false := beq_eq_false_iff_ne.2 h1
                      rw [if_neg h1] at HX2
                      clear h1
                      by_cases h2 : a2 = []
                      · have e2 : (a2 == []) = true := by rw [h2]; rfl
                        rw [if_pos h2] at HX2
                        clear h2
                        have hzwc := S10.out.wW
                        go_wp2_with (at_builtin; refine list_append_at rfl (.tmp 134) (.tmp 139) 28 rfl w.heap.size 83 (.agg #[.string ⟨#[]⟩, .string ⟨#[]⟩]) 2 32 Tryz.underlying28 infoPair rfl (by decide) _ out.length (pairCells out) rfl (S10.out.hO.alloc _) ⟨wc.heap.size, 0, none⟩ 1 1 [.string (bs x1), .string (bs a1)] rfl rfl (cell_two_new _ _ _ _) (by simp [Value.oneCell']) (by unfold maxLen; omega) (by omega) (by simp; omega) ?_; intro v' wA hownA hgrow hat; have SA := hid (NSt.app (a1 := a1) S10.out hgrow hownA hat); have FA := hid (blk_grown (F10.out.below ((Below.refl wc.heap.size wc).alloc (Nat.le_refl _) _)) hgrow HOF.out); have HOA := hid (show v'.ownBlock ≠ some w.heap.size from fun e => by
                          rcases hat with h1 | h1
                          · exact HOF.out (h1 ▸ e)
                          · rw [h1] at e; have h2 := Option.some.inj e; simp at h2; omega); have hzA := SA.out.wW; have n1 : wA.cell? ⟨g, 1, none⟩ = some (.slice A1 r.length c1) := SA.out.bN.cell 1; have p0 : wA.cell? ⟨wr.heap.size, 0, none⟩ = some (.string (bs x1)) := SA.out.bP.cell 0; clear hownA hgrow hat)
                        exact ⟨⟨k + 1, out ++ [(x1, a1)], r, _, by omega, by go_num, by first | omega | (simp; omega), by omega, SA.out.hO, SA.out.bN, SA.out.hR, SA.out.rb, SA.out.ap, hid HX2.out, SA.out.K, FA.out, HOA.out, HRF.out⟩, by simp [intOf]; omega⟩
                      · have e2 : (a2 == []) = false := beq_eq_false_iff_ne.2 h2
                        rw [if_neg h2] at HX2
                        clear h2
                        have hzwc := S10.out.wW
                        go_wp2_with (at_builtin; refine list_append_at rfl (.tmp 134) (.tmp 139) 28 rfl w.heap.size 83 (.agg #[.string ⟨#[]⟩, .string ⟨#[]⟩]) 2 32 Tryz.underlying28 infoPair rfl (by decide) _ out.length (pairCells out) rfl (S10.out.hO.alloc _) ⟨wc.heap.size, 0, none⟩ 1 1 [.string (bs x1), .string (bs a1)] rfl rfl (cell_two_new _ _ _ _) (by simp [Value.oneCell']) (by unfold maxLen; omega) (by omega) (by simp; omega) ?_; intro v' wA hownA hgrow hat; have SA := hid (NSt.app (a1 := a1) S10.out hgrow hownA hat); have FA := hid (blk_grown (F10.out.below ((Below.refl wc.heap.size wc).alloc (Nat.le_refl _) _)) hgrow HOF.out); have HOA := hid (show v'.ownBlock ≠ some w.heap.size from fun e => by
                          rcases hat with h1 | h1
                          · exact HOF.out (h1 ▸ e)
                          · rw [h1] at e; have h2 := Option.some.inj e; simp at h2; omega); have hzA := SA.out.wW; have n1 : wA.cell? ⟨g, 1, none⟩ = some (.slice A1 r.length c1) := SA.out.bN.cell 1; have p0 : wA.cell? ⟨wr.heap.size, 0, none⟩ = some (.string (bs x1)) := SA.out.bP.cell 0; clear hownA hgrow hat)
                        have n1 : wA.cell? ⟨g, 1, none⟩ = some (.slice A1 r.length c1) := SA.out.bN.cell 1
                        have HRP := hid (psl_of_owns SA.out.hR)
                        have hpW := SA.out.bP.lt
                        have hgW := SA.out.bN.lt
                        have hzW := SA.out.wW
                        have p0 : wA.cell? ⟨wr.heap.size, 0, none⟩ = some (.string (bs x1)) := SA.out.bP.cell 0
                        generalize hpb : wr.heap.size = pb at *
                        clear hpb
                        skip
                        clear n1
                        go_loopw [27, 148] (fun l j wr => RB4 r x1 wA l j wr) (fun _ j _ => r.length - (intOf j).toNat)
                        case atStart => exact ⟨0, by omega, rfl, by simpa [without, pairCells] using World.ownsRow_nil _ _ _ _, Below.refl _ _⟩
                        case round =>
                          obtain ⟨jj, hj, rfl, hown, hc⟩ := hrel
                          have hcz := hc.size
                          have p0 := (hc.cell (p := ⟨pb, 0, none⟩) hpW).trans p0
                          have hpw : pb < wr.heap.size := by omega
                          have hwl : (without (r.take jj) x1).length ≤ r.length := Nat.le_trans (List.length_filter_le _ _) (by rw [List.length_take]; omega)
                          by_cases hjl : jj < r.length
                          · obtain ⟨_, b2, o2, c2, hveq, hbl2, hcell⟩ := (HRP.out.below hc).open_.resolve_left (by rintro ⟨rfl, _⟩; simp at hjl)
                            cases hveq
                            obtain ⟨g0, g1⟩ := hcell jj hjl
                            have HWT := hid (without_take r x1 jj hjl)
                            clear hcell
                            generalize hrr : without (r.take jj) x1 = rr at *
                            generalize r.getD jj ([], []) = y at *
                            obtain ⟨y1, y2⟩ := y
                            simp only at *
                            clear hrr
                            obtain ⟨Wq, hWq⟩ : ∃ Wq, wr.alloc (.cells #[.string (bs y1), .string (bs y2)] 83) = Wq := ⟨_, rfl⟩
                            have hAq : Below wr.heap.size wr Wq := by rw [← hWq]; exact (Below.refl _ _).alloc (Nat.le_refl _) _
                            have q0 : Wq.cell? ⟨wr.heap.size, 0, none⟩ = some (.string (bs y1)) := by rw [← hWq]; simp
                            have q1 : Wq.cell? ⟨wr.heap.size, 1, none⟩ = some (.string (bs y2)) := by rw [← hWq]; simp
                            have p0 := (hAq.cell (p := ⟨pb, 0, none⟩) hpw).trans p0
                            have hzq : wr.heap.size < Wq.heap.size := by rw [← hWq]; simp
                            have HOq := hid (owns_below hown hAq)
                            have Hcq := hid (hc.trans (hAq.mono hcz))
                            cases hyx : (y1 == x1) with
                            | true =>
                              rw [hyx] at HWT
                              have HST := hid (show without (r.take (jj + 1)) x1 = rr by rw [HWT.out]; simp)
                              clear HWT hown hc
                              go_wp2
                              exact ⟨⟨jj + 1, by omega, by go_num, by rw [HST.out]; exact HOq.out, Hcq.out⟩, by simp [intOf]; omega⟩
                            | false =>
                              rw [hyx] at HWT
                              have HST := hid (show without (r.take (jj + 1)) x1 = rr ++ [(y1, y2)] by rw [HWT.out]; simp)
                              clear HWT hown hc
                              go_wp2_with (at_builtin; refine list_append_own rfl (.tmp 157) (.tmp 159) 28 rfl wA.heap.size 83 (.agg #[.string ⟨#[]⟩, .string ⟨#[]⟩]) 2 32 Tryz.underlying28 infoPair rfl (by decide) _ rr.length (pairCells rr) rfl (HOq.out.alloc _) ⟨Wq.heap.size, 0, none⟩ 1 1 [.string (bs y1), .string (bs y2)] rfl rfl (cell_two_new _ _ _ _) (by simp [Value.oneCell']) (by unfold maxLen; omega) (by omega) (by simp; omega) ?_; intro v' wB hownB hgrow _)
                              exact ⟨⟨jj + 1, by omega, by go_num, by rw [HST.out, pairCells_snoc, List.length_append]; exact hownB, below_append (Hcq.out.alloc (by omega) _) (HOq.out.alloc _) hgrow (by simp; omega)⟩, by simp [intOf]; omega⟩
                          · obtain rfl : jj = r.length := by omega
                            rw [List.take_length] at hown hwl
                            have n1 : wr.cell? ⟨g, 1, none⟩ = some (.slice A1 r.length c1) := (SA.out.below hc).bN.cell 1
                            have HOw := hid hown
                            have Hc := hid hc
                            have hlt4 : ¬ ((r.length : Int) < (r.length : Int)) := by omega
                            clear hown hc hjl hj
                            generalize hrr : without r x1 = rr at *
                            go_wp2_with (at_builtin; refine list_append_own rfl (.tmp 163) (.tmp 168) 28 rfl wA.heap.size 83 (.agg #[.string ⟨#[]⟩, .string ⟨#[]⟩]) 2 32 Tryz.underlying28 infoPair rfl (by decide) _ rr.length (pairCells rr) rfl (HOw.out.alloc _) ⟨wr.heap.size, 0, none⟩ 1 1 [.string (bs x1), .string (bs a2)] rfl rfl (cell_two_new _ _ _ _) (by simp [Value.oneCell']) (by unfold maxLen; omega) (by omega) (by simp; omega) ?_; intro v' wB hownB hgrow _; have bB := hid (below_append (Hc.out.alloc (by omega) _) (HOw.out.alloc _) hgrow (by simp; omega)); have SB := SA.out.newrec (rv2 := v') (r2 := rr ++ [(x1, a2)]) bB.out (by rw [pairCells_snoc, List.length_append]; exact hownB) hB (by simp); have HSB := hid SB.1; have n1 : wB.cell? ⟨g, 1, none⟩ = some (.slice A1 r.length c1) := SB.2.cell 1; have f1 : wB.frozen? ⟨g, 1, none⟩ = false := SB.2.free 1; have HRB2 := hid (show v'.ownBlock ≠ some w.heap.size from fun e => by have h1 := (hownB.lt _ e).1; have h2 := FA.out.lt; omega); obtain ⟨A2, c2, rfl⟩ := own_slice hownB; have FB := hid ((FA.out.below bB.out).far (p := ⟨g, 1, none⟩) (by simp only; omega) (.slice A2 (rr.length + 1) c2)); clear SB hownB hgrow)
                            go_wp2
                            exact ⟨⟨k + 1, out ++ [(x1, a1)], rr ++ [(x1, a2)], _, by omega, by go_num, by first | omega | (simp; omega), by rw [List.length_append]; simp only [List.length_cons, List.length_nil]; omega, HSB.out.hO, HSB.out.bN, HSB.out.hR, HSB.out.rb, HSB.out.ap, hid HX2.out, HSB.out.K, FB.out, HOA.out, HRB2.out⟩, by simp [intOf]; omega⟩
              · obtain rfl : k = offers.length := by omega
                have HY := hid (show outR own offers rec login disc = (out, r) by rw [HO.out, HX.out, ansAll_end own login disc offers offers.length (out, r) (Nat.le_refl _)])
                have HNS := hid (show RNegoS wr B g ov (.slice A1 r.length c1) own r from ⟨hBk, HN.out.hov.kept HN.out.so HK, hRk, by
                    rcases hrbk with h | ⟨q, h, hq⟩
                    · rw [h]; exact HN.out.sg
                    · rw [h]; intro e; have := Option.some.inj e; omega, by
                    rcases hrbk with h | ⟨q, h, hq⟩
                    · rw [h]; exact HN.out.so
                    · rcases FarO.lt HN.out.hov with h0 | ⟨b', o', n', c', hv, hlt'⟩
                      · exact .inl h0
                      · rcases HN.out.so with h0 | ⟨b2, o2, n2, c2, hv2, hn2⟩
                        · exact .inl h0
                        · rw [hv] at hv2
                          cases hv2
                          refine .inr ⟨b', o', n', c', hv, fun hs => ?_⟩
                          rcases hs with hs | hs
                          · exact hn2 (.inl hs)
                          · rw [h] at hs; have := Option.some.inj hs; omega⟩)
                have HOW := hid hown
                have HKK := hid HK
                have HRB := hid hrbk
                have HFF := hid hF
                have HOF := hid hoF
                have HRF := hid hrF
                have hlt4 : ¬ ((offers.length : Int) < (offers.length : Int)) := by omega
                have cg := fun W => hid (good_any W)
                clear hown hBk hRk hap HK hrbk hlt hk HX HO HS hF hoF hrF
                go_wp2_with fail
                refine (cg _).out.mono ?_
                rintro e wz ⟨rfl, hbz⟩
                have HFz := hid (HFF.out.below hbz)
                have q0 : wz.cell? ⟨w.heap.size, 0, none⟩ = some (.int .i64 0) := HFz.out.cell 0
                have q1 : wz.cell? ⟨w.heap.size, 1, none⟩ = some (.int .i64 0) := HFz.out.cell 1
                have q2 : wz.frozen? ⟨w.heap.size, 0, none⟩ = false := HFz.out.free 0
                have q3 : wz.frozen? ⟨w.heap.size, 1, none⟩ = false := HFz.out.free 1
                go_wp2
                refine bodyPost_ret (v := .tuple #[u16, .agg #[.int .i64 0, .int .i64 (-1)]]) (by simp [results, Tryz.results19, go_sem, q0, q1]) rfl ?_
                have hgF : g ≠ w.heap.size := by omega
                have bZ : Below wr.heap.size wr wz := hbz
                have hrF : (Value.slice A1 r.length c1).ownBlock ≠ some w.heap.size := HRF.out
                have e1 := owns_setk (owns_setk (owns_below HOW.out bZ) w.heap.size 0 (.int .i64 0) HOF.out) w.heap.size 1 (.int .i64 (-1)) HOF.out
                have e2 := owns_setk (owns_setk (owns_below HNS.out.hrv bZ) w.heap.size 0 (.int .i64 0) hrF) w.heap.size 1 (.int .i64 (-1)) hrF
                have e3 := ((HNS.out.blk.below bZ).far (p := ⟨w.heap.size, 0, none⟩) hgF (.int .i64 0)).far (p := ⟨w.heap.size, 1, none⟩) hgF (.int .i64 (-1))
                have e4 := ((HKK.out.below bZ).set ⟨w.heap.size, 0, none⟩ (.int .i64 0) (.inr (Nat.le_refl _))).set ⟨w.heap.size, 1, none⟩ (.int .i64 (-1)) (.inr (Nat.le_refl _))
                exact ⟨⟨_, _, by rw [HE.out]; rfl, by rw [HY.out]; exact e1, by rw [HY.out]; exact ⟨e3, HN.out.hov.kept HN.out.so e4, e2, HNS.out.sg, HNS.out.so⟩, HRB.out⟩, e4⟩
  · have HE := hid (offP_pairs offers rec login hp0)
    have HO := hid (show outR own offers rec login disc = ([], rec) by unfold outR; rw [HE.out, if_neg hp0])
    rw [decide_eq_false hp0]
    have q0 : w2.cell? ⟨w.heap.size, 0, none⟩ = some (.int .i64 0) := F3.cell 0
    have q1 : w2.cell? ⟨w.heap.size, 1, none⟩ = some (.int .i64 0) := F3.cell 1
    have q2 : w2.frozen? ⟨w.heap.size, 0, none⟩ = false := F3.free 0
    have q3 : w2.frozen? ⟨w.heap.size, 1, none⟩ = false := F3.free 1
    go_wp2
    go_still_tail 2, (by kernel_rfl)
    change wpList _ _ _ _ _ w2.drew
    go_wp2
    refine bodyPost_ret (v := .tuple #[.slice none 0 0, .agg #[.int .i64 ((pairsR offers).1 : Nat), .int .i64 (pairsR offers).2]]) (by simp [results, Tryz.results19, go_sem, q0, q1]) rfl ?_
    have bX := (b2.drew.setCell (p := ⟨w.heap.size, 0, none⟩) (Nat.le_refl _) (.int .i64 ((pairsR offers).1 : Nat))).setCell (p := ⟨w.heap.size, 1, none⟩) (Nat.le_refl _) (.int .i64 (pairsR offers).2)
    refine ⟨⟨_, rv, by rw [HE.out]; rfl, by rw [HO.out]; exact World.ownsRow_nil _ _ _ _, by rw [HO.out]; exact hN.below bX, .inl rfl⟩, (KeptS.refl _ _).below bX⟩
end
end Go.Proofs.YtbimlijhgeajjaaGreatDoor
