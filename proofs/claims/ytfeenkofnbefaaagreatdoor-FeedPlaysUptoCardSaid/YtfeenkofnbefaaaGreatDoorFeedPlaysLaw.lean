/- The walk of the law FeedPlays: it returns true. -/
import Derived.Test.YtfeenkofnbefaaaGreatDoorCount
import Derived.Test.YtfeenkofnbefaaaGreatDoorFeedNextR
import Derived.Test.YtfeenkofnbefaaaGreatDoorFeedActs
import Derived.StillTailTactics
import Derived.Deep.QuietTactic
import Derived.BigQuiet
set_option linter.unusedSectionVars false
set_option linter.unusedSimpArgs false
set_option linter.unusedVariables false
namespace Go.Proofs.YtfeenkofnbefaaaGreatDoor
open Go Go.RowKit
set_option linter.unusedVariables false
set_option linter.unusedSectionVars false
set_option linter.unusedSimpArgs false
set_option maxRecDepth 100000
theorem ahsP_lenF : ∀ (f : Nat) (rest : List UInt8) (k : Nat), (ahsP f rest k).1.length ≤ f
  | 0, _, _ => by simp [ahsP]
  | f + 1, rest, k => by
    simp only [ahsP]
    split
    · simp
    · split
      · simp
      · split
        · have := ahsP_lenF f (rest.drop (3 + num (rest.take 2) + padN (3 + num (rest.take 2)))) (k + (3 + num (rest.take 2) + padN (3 + num (rest.take 2))))
          simp only [List.length_cons]
          omega
        · simp
theorem readP_lenF (s : List UInt8) (mode : Int) (hs : s.length ≤ 900000) : (readP s mode).vals.length ≤ 1000000 ∧ (readP s mode).ahs.length ≤ 1000000 := by
  have h1 := read_len' (s.take 48)
  have h2 : (ahsOf s).1.length ≤ 900001 := by
    refine Nat.le_trans (ahsP_lenF _ _ _) ?_
    simp; omega
  unfold readP
  split
  · simp [rdNo]
  split
  · simp [rdNo]
  unfold readPa
  split
  · simp [rdNo]
  split
  · simp [rdNo]
  split
  · simp [rdNo]
  split
  · simp [rdNo]
  split
  · simp [rdNo]
  split
  · simp [rdNo]
  exact ⟨by simp only; omega, by simp only; omega⟩
theorem feedP_pl (all : List UInt8) (limit : Nat) (mode : Int) (bad : Nat) (hs : all.length ≤ 900000) : (feedP all limit mode bad).pdu.vals.length ≤ 1000000 ∧ (feedP all limit mode bad).pdu.ahs.length ≤ 1000000 := by
  unfold feedP
  split
  · simp [rdNo]
  split
  · simp [rdNo]
  split
  · simp [rdNo]
  split
  · simp [rdNo]
  split
  · simp [rdNo]
  exact readP_lenF _ _ (by simp; omega)
theorem pcs_at (L : List PcX) (j q : Nat) (x : PcX) (h : L[j]? = some x) (hq : q < 7) : (L.flatMap pcCells)[j * 7 + q]? = (pcCells x)[q]? := by
  induction L generalizing j with
  | nil => simp at h
  | cons y L ih =>
    rw [List.flatMap_cons]
    cases j with
    | zero =>
      have : y = x := by simpa using h
      subst this
      rw [List.getElem?_append_left (by simp [pcCells]; omega)]
      congr 1; omega
    | succ j =>
      rw [List.getElem?_append_right (by simp [pcCells]; omega)]
      have := ih j (by simpa using h)
      rw [← this]
      congr 1
      simp [pcCells]; omega
theorem belowG {B : Nat} {w a b : World} {g : Nat} (h : Below B w a) (h2 : a.grownBy b (some g)) (hg : B ≤ g) (hB : B ≤ a.heap.size) : Below B w b :=
  ⟨h2.os.trans h.os, h2.tape.trans h.tape, h2.output.trans h.output, Nat.le_trans h.size h2.size, fun k hk => (h2.block k (Nat.lt_of_lt_of_le hk hB) (by intro e; cases e; omega)).trans (h.block k hk)⟩
/-- the sum so far -/
def RSumA (l : List A3) (w : World) (n i : Value) (wr : World) : Prop :=
  ∃ k : Nat, k ≤ l.length ∧ i = .int .i64 (k : Nat) ∧ n = .int .i64 (totA (l.take k) : Nat) ∧ Below w.heap.size w wr
/-- both feeds hold the same -/
def RFd (l : List A3) (gx gr limit : Nat) (w : World) (i : Value) (wr : World) : Prop :=
  ∃ (k : Nat) (kept : List UInt8) (mode : Int) (bad : Nat), k ≤ l.length ∧ i = .int .i64 (k : Nat) ∧ kept.length ≤ totA (l.take k) ∧ (0 ≤ mode ∧ mode ≤ 3) ∧ FeedB wr gx kept limit mode bad ∧ RFeedB wr gr kept limit mode bad ∧ Below w.heap.size w wr
/-- the document's feed gives what the program has given -/
def RIn (L : List PcX) (limit : Nat) (mode : Int) (s : List UInt8 × Nat) (gr : Nat) (w2 : World) (i : Value) (wr : World) : Prop :=
  ∃ j : Nat, j ≤ L.length ∧ i = .int .i64 (j : Nat) ∧ RFeedB wr gr (seqP limit mode s j).1 limit mode (seqP limit mode s j).2 ∧ w2.grownBy wr (some gr)
set_option maxHeartbeats 8000000 in
theorem feedPlays_law (lim : Int) (v : Value) (l : List A3) (w : World) (hv : AcSl w v l) (hbd : AcBd l) (hl0 : -9223372036854775808 ≤ lim) (hl1 : lim ≤ 9223372036854775807) (hg : EType w) (hT : AS w) (hP : PT w) :
    Calls Tryz.prog 3 #[.int .i64 lim, v] w fun e w' => e = .returned (.bool true) ∧ Below w.heap.size w w' := by
  obtain ⟨hbulk, hbd⟩ := hbd
  obtain ⟨A, c, rfl, hA⟩ := hv
  have hlen : l.length ≤ 1048576 := by
    have : l.length ≤ totA l := by
      clear hbd hA hbulk
      induction l with
      | nil => simp
      | cons x l ih => simp only [totA, List.map_cons, List.sum_cons, List.length_cons] at ih ⊢; omega
    omega
  have HA := hid hA; have HBD := hid hbd; clear hA hbd
  have HG := hid hg; have HT := hid hT; have HP := hid hP; clear hg hT hP
  have hb0 := Below.refl w.heap.size w
  go_enter Tryz.func3, Tryz.ntmps3
  go_wp2
  go_loopw [5, 34] (fun n i wr => RSumA l w n i wr) (fun _ i _ => l.length - (intOf i).toNat)
  case atStart => exact ⟨0, by omega, rfl, rfl, hb0⟩
  case round =>
    obtain ⟨k, hk, rfl, rfl, hb⟩ := hrel
    have hB := hb.size
    have htl := totA_le l k
    by_cases hlt : k < l.length
    · obtain ⟨x, hx⟩ : ∃ x, l[k]? = some x := ⟨l[k], List.getElem?_eq_getElem hlt⟩
      obtain ⟨b, o, rfl, hcell⟩ := HA.out.resolve_left (by omega)
      obtain ⟨q0, q1, q2⟩ := hcell k x hx
      have hbl := block_lt_of_cell q0
      have g0 := (hb.cell (p := ⟨b, o + k * 3, none⟩) hbl).trans q0
      have g1 := (hb.cell (p := ⟨b, o + k * 3 + 1, none⟩) hbl).trans q1
      have g2 := (hb.cell (p := ⟨b, o + k * 3 + 2, none⟩) hbl).trans q2
      have hst := totA_step l k x hx
      have ht2 := totA_le l (k + 1)
      have hx0 := hx
      clear hcell q0 q1 q2 hx
      obtain ⟨x1, x2, x3⟩ := x
      simp only at g0 g1 g2 hst
      have hxl : x3.length ≤ 1048576 := by omega
      have hw1 : IntKind.i64.wrap (1 + (x3.length : Int)) = 1 + (x3.length : Int) := by rw [IntKind.wrap_i64]; omega
      have hw2 : IntKind.i64.wrap ((totA (l.take k) : Int) + (1 + (x3.length : Int))) = (totA (l.take k) : Int) + (1 + (x3.length : Int)) := by rw [IntKind.wrap_i64]; omega
      have KEY : ∀ W, Below w.heap.size w W → RSumA l w (.int .i64 ((totA (l.take k) : Int) + (1 + (x3.length : Int)))) (.int .i64 ((k : Int) + 1)) W := fun W hW => ⟨k + 1, by omega, by go_num, by rw [hst]; go_num, hW⟩
      have HKEY := hid KEY; clear KEY hst
      generalize totA (l.take k) = t at *
      go_wp2
      go_roundw
      case rel => exact HKEY.out _ (hb.alloc hB _)
      case measure => simp [intOf]; omega
    · obtain rfl : k = l.length := by omega
      have htt : totA (l.take l.length) = totA l := by rw [List.take_length]
      rw [htt]
      by_cases h4 : 4000 < totA l
      · have hd : decide ((4000 : Int) < (totA l : Int)) = true := decide_eq_true (by omega)
        go_wp2
        go_ret
        exact ⟨rfl, hb⟩
      · have hd : decide ((4000 : Int) < (totA l : Int)) = false := decide_eq_false (by omega)
        by_cases hm : lim < 0 ∨ 100000 < lim
        · have cn := hid (fnew_bad lim wr hm)
          have cb := hid (bare_ok (errV 31 2) 2 wr (HG.out.below hb) (ErrIs.errV wr 2))
          rw [errV_pos _ _ (by omega)] at cn cb
          by_cases hm0 : lim < 0
          · go_wp2_with fail
            refine cn.out.mono ?_
            rintro e w1 ⟨rfl, rfl⟩
            go_wp2_with fail
            refine cb.out.mono ?_
            rintro e w2 ⟨rfl, hb2⟩
            go_wp2
            go_ret
            exact ⟨rfl, hb.trans (hb2.mono hB)⟩
          · have hm1 : 100000 < lim := by omega
            clear hm
            go_wp2_with fail
            refine cn.out.mono ?_
            rintro e w1 ⟨rfl, rfl⟩
            go_wp2_with fail
            refine cb.out.mono ?_
            rintro e w2 ⟨rfl, hb2⟩
            go_wp2
            go_ret
            exact ⟨rfl, hb.trans (hb2.mono hB)⟩
        · obtain ⟨limit, rfl⟩ : ∃ q : Nat, lim = (q : Int) := ⟨lim.toNat, by omega⟩
          have hlim : limit ≤ 100000 := by omega
          have hm0 : ¬ (limit : Int) < 0 := by omega
          have hm1 : ¬ 100000 < (limit : Int) := by omega
          clear hm
          have cn := hid (fnew_good limit wr hlim)
          go_wp2_with fail
          refine cn.out.mono ?_
          rintro e w1 ⟨rfl, F1, G1⟩
          have hbl1 : Below w.heap.size w w1 := ⟨G1.os.trans hb.os, G1.tape.trans hb.tape, G1.output.trans hb.output, Nat.le_trans hb.size G1.size, fun k hk => (G1.block k (Nat.lt_of_lt_of_le hk hb.size) (by simp)).trans (hb.block k hk)⟩
          have hx1 := Blk.lt F1
          have RZ := Blk.new w1 34 #[.string (bs []), .int .i64 (limit : Int), .int .i64 0, .bool false]
          have hAl := (Below.refl w1.heap.size w1).alloc (Nat.le_refl _) (.cells #[.string (bs []), .int .i64 (limit : Int), .int .i64 0, .bool false] 34)
          have F2 := Blk.below F1 hAl
          have hb2 := hbl1.trans (hAl.mono hbl1.size)
          have hgx0 : w.heap.size ≤ wr.heap.size := hB
          have hgr0 : w.heap.size ≤ w1.heap.size := hbl1.size
          have hxr : wr.heap.size ≠ w1.heap.size := by omega
          obtain ⟨gx, hgx⟩ : ∃ gx, wr.heap.size = gx := ⟨_, rfl⟩
          obtain ⟨gr, hgr⟩ : ∃ gr, w1.heap.size = gr := ⟨_, rfl⟩
          rw [hgx] at F2 hgx0 hxr
          rw [hgr] at RZ hgr0 hxr
          have HF2 := hid F2; have HRZ := hid RZ; have HB2 := hid hb2
          clear F1 F2 RZ hb2 hAl G1 hx1 cn
          go_wp2_with fail
          change Code.wp _ _ _ _ (w1.alloc (.cells #[.string (bs []), .int .i64 (limit : Int), .int .i64 0, .bool false] 34))
          generalize w1.alloc (.cells #[.string (bs []), .int .i64 (limit : Int), .int .i64 0, .bool false] 34) = w3 at *
          clear hgx hgr hbl1 hb hB
          go_loopw [75] (fun i wr => RFd l gx gr limit w i wr) (fun i _ => l.length - (intOf i).toNat)
          case atStart => exact ⟨0, [], 0, 0, by omega, rfl, by simp, by omega, HF2.out, HRZ.out, HB2.out⟩
          case round =>
            clear HF2 HRZ HB2 w3 w1
            obtain ⟨k, kept, mode, bad, hk, rfl, hkl, hm, hF, hR, hb⟩ := hrel
            have hB := hb.size
            have htk := totA_le l k
            by_cases hlt : k < l.length
            · obtain ⟨x, hx⟩ : ∃ x, l[k]? = some x := ⟨l[k], List.getElem?_eq_getElem hlt⟩
              obtain ⟨b, o, rfl, hcell⟩ := HA.out.resolve_left (by omega)
              obtain ⟨q0, q1, q2⟩ := hcell k x hx
              have hbl := block_lt_of_cell q0
              have g0 := (hb.cell (p := ⟨b, o + k * 3, none⟩) hbl).trans q0
              have g1 := (hb.cell (p := ⟨b, o + k * 3 + 1, none⟩) hbl).trans q1
              have g2 := (hb.cell (p := ⟨b, o + k * 3 + 2, none⟩) hbl).trans q2
              have hst := totA_step l k x hx
              have ht2 := totA_le l (k + 1)
              obtain ⟨⟨hK0, hK1⟩, ⟨hN0, hN1⟩⟩ := HBD.out x (List.mem_of_getElem? hx)
              clear hcell q0 q1 q2 hx
              obtain ⟨K, N, S⟩ := x
              simp only at g0 g1 g2 hst hK0 hK1 hN0 hN1
              have KEY : ∀ (W : World) (kept' : List UInt8) (mode' : Int) (bad' : Nat), kept'.length ≤ totA (l.take k) + (1 + S.length) → (0 ≤ mode' ∧ mode' ≤ 3) → FeedB W gx kept' limit mode' bad' → RFeedB W gr kept' limit mode' bad' → Below w.heap.size w W → RFd l gx gr limit w (.int .i64 ((k : Int) + 1)) W :=
                fun W kept' mode' bad' h1 h2 h3 h4 h5 => ⟨k + 1, kept', mode', bad', by omega, by go_num, by rw [hst]; exact h1, h2, h3, h4, h5⟩
              have HKEY := hid KEY; clear KEY
              rw [hst] at ht2
              have hA0 := (Below.refl wr.heap.size wr).alloc (Nat.le_refl _) (.cells #[.int .i64 K, .int .i64 N, .string (bs S)] 24)
              have hXA := Blk.below hF hA0
              have hRA := Blk.below hR hA0
              have hP0 := Blk.new wr 24 #[.int .i64 K, .int .i64 N, .string (bs S)]
              have hbA := hb.trans (hA0.mono hB)
              have hxl := Blk.lt hF
              have hrl := Blk.lt hR
              have hpx : wr.heap.size ≠ gx := by omega
              have hpr : wr.heap.size ≠ gr := by omega
              obtain ⟨wA, hwA⟩ : ∃ wA, wr.alloc (.cells #[.int .i64 K, .int .i64 N, .string (bs S)] 24) = wA := ⟨_, rfl⟩
              rw [hwA] at hXA hRA hP0 hbA
              have hBA := hbA.size
              have p0 := (hP0.cell 0).trans (rfl : _ = some (Value.int .i64 K))
              have p1 := (hP0.cell 1).trans (rfl : _ = some (Value.int .i64 N))
              have p2 := (hP0.cell 2).trans (rfl : _ = some (Value.string (bs S)))
              have r0 := (Blk.cell hRA 0).trans (rfl : _ = some (Value.string (bs kept)))
              have r2 := (Blk.cell hRA 2).trans (rfl : _ = some (Value.int .i64 mode))
              have r3 := (Blk.cell hRA 3).trans (rfl : _ = some (Value.bool (bad != 0)))
              have s0 := Blk.free hRA 0
              have s2 := Blk.free hRA 2
              obtain ⟨pa, hpa⟩ : ∃ pa, wr.heap.size = pa := ⟨_, rfl⟩
              rw [hpa] at p0 p1 p2 hpx hpr hP0
              have HP0 := hid hP0; have HXA := hid hXA; have HRA := hid hRA; have HbA := hid hbA
              clear hP0 hXA hRA hbA hA0 hF hR hb hB hst
              by_cases hk0 : K = 0
              · subst hk0
                by_cases hbad : bad = 0
                · subst hbad
                  have r3 := r3.trans (rfl : _ = some (Value.bool false))
                  have hsl : kept.length + S.length ≤ 1000000 := by omega
                  have hmx : Tryz.prog.follows .mixedOrders = true := by kernel_rfl
                  go_wp2_with fail
                  refine wpIn_wide (n := 4).1 ?_
                  refine region_ghost (G := Unit) (fun _ => [(87, .pointer (some ⟨gr, 0, none⟩)), (88, .pointer (some ⟨gr, 0, none⟩)), (89, .pointer (some ⟨gr, 0, none⟩)), (90, .string (bs kept)), (91, .pointer (some ⟨pa, 2, none⟩)), (92, .string (bs S)), (93, .string (bs (kept ++ S))), (94, .pointer (some ⟨gr, 0, none⟩)), (95, .pointer (some ⟨gr, 0, none⟩))])
                    (fun d _ W => wA.grownBy W (some gr) ∧ Blk W gr 34 (if d 9 = true then #[.string (bs (kept ++ S)), .int .i64 (limit : Int), .int .i64 mode, .bool false] else #[.string (bs kept), .int .i64 (limit : Int), .int .i64 mode, .bool false]) ∧ (d 9 = true → d 3 = true))
                    () (aF := ?kA) ?kB hmx [87, 88, 89, 90, 91, 92, 93, 94, 95] (fun _ => rfl) (by kernel_rfl) (by kernel_rfl) ⟨⟨rfl, rfl, rfl, Nat.le_refl _, fun _ _ _ => rfl⟩, by simp; exact HRA.out, by simp⟩ ?kE ?kQ
                  case kB =>
                    intro y
                    simp only [putAll, List.foldl_cons, List.foldl_nil, List.setIfInBounds_toArray, List.set_cons_zero, List.set_cons_succ]
                    exact rfl
                  case kE =>
                    have hpA : pa < wA.heap.size := Blk.lt HP0.out
                    refine ⟨?o0, ?o1, ?o2, ?o3, ?o4, ?o5, ?o6, ?o7, ?o8, ?o9, trivial⟩
                    all_goals refine ⟨by simp, fun d y W hC hd hdep => ⟨by simp [go_sem, Oper.about], ?_⟩⟩
                    case o3 =>
                      have h9 : d 9 = false := by
                        cases hq : d 9 with
                        | false => rfl
                        | true =>
                          have := hC.2.2 hq
                          have hd' : d 3 = false := hd
                          rw [hd'] at this; cases this
                      have q2 := hC.2.1
                      rw [if_neg (by rw [h9]; simp)] at q2
                      have d0 := (Blk.cell q2 0).trans (rfl : _ = some (Value.string (bs kept)))
                      refine opGhost_same (by simp [go_sem, d0]) rfl ⟨hC.1, ?_, fun h => ?_⟩
                      · rw [if_neg (by show ¬ also d 3 9 = true; have e : also d 3 9 = false := h9; rw [e]; simp)]
                        exact q2
                      · show also d 3 3 = true
                        unfold also; simp
                    case o9 =>
                      have hd' : d 9 = false := hd
                      simp [Region.binds] at hdep
                      have d3 : d 3 = true := by simp [hdep]
                      clear hdep
                      have q2 := hC.2.1
                      rw [if_neg (by rw [hd']; simp)] at q2
                      have v0 := q2.free 0
                      have t0 := (q2.cell 0).trans (rfl : _ = some (Value.string (bs kept)))
                      refine opGhost_store (w' := W.setCell ⟨gr, 0, none⟩ (.string (bs (kept ++ S)))) (by simp [go_sem, v0, t0]) rfl ⟨grownF hC.1 0 _, ?_, fun _ => d3⟩
                      rw [if_pos (by show also d 9 9 = true; unfold also; simp)]
                      exact q2.set 0 _
                    all_goals
                      have d2 := (hC.1.cell p2 (by intro e; cases e; exact hpr rfl))
                    case o6 => exact opGhost_same (by first | (simp [go_sem]; done) | (simp [go_sem]; rw [if_neg (by omega)]; done) | (simp [go_sem]; omega)) rfl hC
                    all_goals exact opGhost_same (by simp [go_sem, d2]) rfl hC
                  case kQ =>
                  rintro d _ W1 hall ⟨hg1, q1, -⟩
                  rw [if_pos (hall 9 (by simp))] at q1
                  have hR1 : RFeedB W1 gr (kept ++ S) limit mode 0 := q1
                  have hX1 : FeedB W1 gx kept limit mode 0 := Blk.only HXA.out hg1 hxr
                  have hb1 : Below w.heap.size w W1 := belowG HbA.out hg1 hgr0 hBA
                  have hP1 := HP0.out.only hg1 hpr
                  clear hg1 q1 hall
                  have cp := fput_any gx kept limit mode 0 W1 hX1 S hsl
                  simp only [if_true] at cp
                  rw [errV_zero] at cp
                  have CP := hid cp
                  have p2' := (hP1.cell 2).trans (rfl : _ = some (Value.string (bs S)))
                  have HR1 := hid hR1; have HB1 := hid hb1
                  clear cp hX1 hR1 hb1 hP1
                  gi_wp2
                  go_wp2_with fail
                  refine CP.out.mono ?_
                  rintro e w2 ⟨rfl, hX2, hG2⟩
                  have hR2 := Blk.only HR1.out hG2 (fun e => hxr e.symm)
                  have hb2 := belowG HB1.out hG2 hgx0 HB1.out.size
                  have cb := hid (bare_ok .nilIface 0 w2 (HG.out.below hb2) .nil)
                  have HR2 := hid hR2; have HX2 := hid hX2; have HB2 := hid hb2
                  clear hR2 hX2 hb2 hG2
                  go_wp2_with fail
                  refine cb.out.mono ?_
                  rintro e w3 ⟨rfl, hb3⟩
                  have hX3 := Blk.below HX2.out hb3
                  have hR3 := Blk.below HR2.out hb3
                  have hB3 := HB2.out.trans (hb3.mono HB2.out.size)
                  go_wp2_with fail
                  have ck := fun (q : Nat) => hid ((fkept_any gx (kept ++ S) limit mode 0 (w3.drewN q) (show FeedB (w3.drewN q) gx (kept ++ S) limit mode 0 from hX3) (by simp; omega)).mono (fun e w' q1 => (⟨q1.1, q1.2.symm⟩ : _ ∧ w' = w3.drewN q)))
                  have z0 := (Blk.cell hR3 0).trans (rfl : _ = some (Value.string (bs (kept ++ S))))
                  have FIN : ∀ W, Below w3.heap.size w3 W → RFd l gx gr limit w (.int .i64 ((k : Int) + 1)) W := fun W hW => HKEY.out W (kept ++ S) mode 0 (by simp; omega) (by omega) (Blk.below hX3 hW) (Blk.below hR3 hW) (hB3.trans (hW.mono hB3.size))
                  have HFIN := hid FIN
                  clear FIN
                  go_quiet ((go_at_call 16; exact Calls.quiet_of_same (ck _).out))
                  go_wp2
                  go_roundw
                  case rel => exact HFIN.out _ (below_drewN (Below.refl _ _) _)
                  case measure => simp [intOf]; omega
                · have hbt : (bad != 0) = true := by simpa using hbad
                  rw [hbt] at r3
                  have cp := fput_any gx kept limit mode bad wA HXA.out S (by omega)
                  simp only [if_neg hbad] at cp
                  rw [errV_pos _ _ (by omega)] at cp
                  have CP := hid cp; clear cp
                  go_wp2_with fail
                  refine CP.out.mono ?_
                  rintro e w2 ⟨rfl, hX2, hG2⟩
                  have hR2 := Blk.only HRA.out hG2 (fun e => hxr e.symm)
                  have hb2 := belowG HbA.out hG2 hgx0 hBA
                  have cb := hid (bare_ok (.iface 31 (.int .i64 ((6 : Nat) : Int))) 6 w2 (HG.out.below hb2) (.bare 6 (by omega)))
                  have HR2 := hid hR2; have HX2 := hid hX2; have HB2 := hid hb2
                  clear hR2 hX2 hb2 hG2
                  go_wp2_with fail
                  refine cb.out.mono ?_
                  rintro e w3 ⟨rfl, hb3⟩
                  have hX3 := Blk.below HX2.out hb3
                  have hR3 := Blk.below HR2.out hb3
                  have hB3 := HB2.out.trans (hb3.mono HB2.out.size)
                  go_wp2_with fail
                  have ck := fun (q : Nat) => hid ((fkept_any gx kept limit mode bad (w3.drewN q) (show FeedB (w3.drewN q) gx kept limit mode bad from hX3) (by omega)).mono (fun e w' q1 => (⟨q1.1, q1.2.symm⟩ : _ ∧ w' = w3.drewN q)))
                  have z0 := (Blk.cell hR3 0).trans (rfl : _ = some (Value.string (bs kept)))
                  have FIN : ∀ W, Below w3.heap.size w3 W → RFd l gx gr limit w (.int .i64 ((k : Int) + 1)) W := fun W hW => HKEY.out W kept mode bad (by omega) (by omega) (Blk.below hX3 hW) (Blk.below hR3 hW) (hB3.trans (hW.mono hB3.size))
                  have HFIN := hid FIN
                  clear FIN
                  go_quiet ((go_at_call 16; exact Calls.quiet_of_same (ck _).out))
                  go_wp2
                  go_roundw
                  case rel => exact HFIN.out _ (below_drewN (Below.refl _ _) _)
                  case measure => simp [intOf]; omega
              have hk0b : (K == 0) = false := by simpa using hk0
              by_cases hk1 : K = 1
              · subst hk1
                have r3n := r3
                by_cases hn1 : N < 0
                · have dn1 : decide (N < 0) = true := decide_eq_true hn1
                  have hme : modeE bad N = 1 := by unfold modeE; rw [if_pos (.inl hn1)]
                  have cm := fmode_any gx kept limit mode bad wA HXA.out N hN0 hN1
                  rw [hme] at cm
                  simp only [if_neg (show ¬ (1 : Nat) = 0 by omega)] at cm
                  rw [errV_pos _ _ (by omega)] at cm
                  have CM := hid cm; clear cm hme

                  go_wp2_with fail
                  refine CM.out.mono ?_
                  rintro e w2 ⟨rfl, hX2, hG2⟩
                  have hR2 := Blk.only HRA.out hG2 (fun e => hxr e.symm)
                  have hb2 := belowG HbA.out hG2 hgx0 hBA
                  have cb := hid (bare_ok (.iface 31 (.int .i64 ((1 : Nat) : Int))) 1 w2 (HG.out.below hb2) (.bare 1 (by omega)))
                  have HR2 := hid hR2; have HX2 := hid hX2; have HB2 := hid hb2
                  clear hR2 hX2 hb2 hG2
                  go_wp2_with fail
                  refine cb.out.mono ?_
                  rintro e w3 ⟨rfl, hb3⟩
                  have hX3 := Blk.below HX2.out hb3
                  have hR3 := Blk.below HR2.out hb3
                  have hB3 := HB2.out.trans (hb3.mono HB2.out.size)
                  go_wp2_with fail
                  have ck := fun (q : Nat) => hid ((fkept_any gx kept limit mode bad (w3.drewN q) (show FeedB (w3.drewN q) gx kept limit mode bad from hX3) (by omega)).mono (fun e w' q1 => (⟨q1.1, q1.2.symm⟩ : _ ∧ w' = w3.drewN q)))
                  have z0 := (Blk.cell hR3 0).trans (rfl : _ = some (Value.string (bs kept)))
                  have FIN : ∀ W, Below w3.heap.size w3 W → RFd l gx gr limit w (.int .i64 ((k : Int) + 1)) W := fun W hW => HKEY.out W kept mode bad (by omega) (by omega) (Blk.below hX3 hW) (Blk.below hR3 hW) (hB3.trans (hW.mono hB3.size))
                  have HFIN := hid FIN
                  clear FIN
                  go_quiet ((go_at_call 16; exact Calls.quiet_of_same (ck _).out))
                  go_wp2
                  go_roundw
                  case rel => exact HFIN.out _ (below_drewN (Below.refl _ _) _)
                  case measure => simp [intOf]; omega
                have dn1 : decide (N < 0) = false := decide_eq_false hn1
                by_cases hn2 : 3 < N
                · have dn2 : decide (3 < N) = true := decide_eq_true hn2
                  have hme : modeE bad N = 1 := by unfold modeE; rw [if_pos (.inr hn2)]
                  have cm := fmode_any gx kept limit mode bad wA HXA.out N hN0 hN1
                  rw [hme] at cm
                  simp only [if_neg (show ¬ (1 : Nat) = 0 by omega)] at cm
                  rw [errV_pos _ _ (by omega)] at cm
                  have CM := hid cm; clear cm hme

                  go_wp2_with fail
                  refine CM.out.mono ?_
                  rintro e w2 ⟨rfl, hX2, hG2⟩
                  have hR2 := Blk.only HRA.out hG2 (fun e => hxr e.symm)
                  have hb2 := belowG HbA.out hG2 hgx0 hBA
                  have cb := hid (bare_ok (.iface 31 (.int .i64 ((1 : Nat) : Int))) 1 w2 (HG.out.below hb2) (.bare 1 (by omega)))
                  have HR2 := hid hR2; have HX2 := hid hX2; have HB2 := hid hb2
                  clear hR2 hX2 hb2 hG2
                  go_wp2_with fail
                  refine cb.out.mono ?_
                  rintro e w3 ⟨rfl, hb3⟩
                  have hX3 := Blk.below HX2.out hb3
                  have hR3 := Blk.below HR2.out hb3
                  have hB3 := HB2.out.trans (hb3.mono HB2.out.size)
                  go_wp2_with fail
                  have ck := fun (q : Nat) => hid ((fkept_any gx kept limit mode bad (w3.drewN q) (show FeedB (w3.drewN q) gx kept limit mode bad from hX3) (by omega)).mono (fun e w' q1 => (⟨q1.1, q1.2.symm⟩ : _ ∧ w' = w3.drewN q)))
                  have z0 := (Blk.cell hR3 0).trans (rfl : _ = some (Value.string (bs kept)))
                  have FIN : ∀ W, Below w3.heap.size w3 W → RFd l gx gr limit w (.int .i64 ((k : Int) + 1)) W := fun W hW => HKEY.out W kept mode bad (by omega) (by omega) (Blk.below hX3 hW) (Blk.below hR3 hW) (hB3.trans (hW.mono hB3.size))
                  have HFIN := hid FIN
                  clear FIN
                  go_quiet ((go_at_call 16; exact Calls.quiet_of_same (ck _).out))
                  go_wp2
                  go_roundw
                  case rel => exact HFIN.out _ (below_drewN (Below.refl _ _) _)
                  case measure => simp [intOf]; omega
                have dn2 : decide (3 < N) = false := decide_eq_false hn2
                by_cases hbad : bad = 0
                · subst hbad
                  have r3 := r3.trans (rfl : _ = some (Value.bool false))
                  have hme : modeE 0 N = 0 := by unfold modeE; rw [if_neg (by omega), if_pos rfl]
                  have hR1 : RFeedB (wA.setCell ⟨gr, 2, none⟩ (.int .i64 N)) gr kept limit N 0 := Blk.set HRA.out 2 _
                  have hX1 : FeedB (wA.setCell ⟨gr, 2, none⟩ (.int .i64 N)) gx kept limit mode 0 := blk_off HXA.out 2 _ hxr
                  have hb1 : Below w.heap.size w (wA.setCell ⟨gr, 2, none⟩ (.int .i64 N)) := below_setc HbA.out hgr0 2 _
                  have hP1 := blk_off HP0.out 2 (.int .i64 N) hpr
                  obtain ⟨W1, hW1⟩ : ∃ W1, wA.setCell ⟨gr, 2, none⟩ (.int .i64 N) = W1 := ⟨_, rfl⟩
                  rw [hW1] at hR1 hX1 hb1 hP1
                  have p1' := (hP1.cell 1).trans (rfl : _ = some (Value.int .i64 N))
                  have cm := fmode_any gx kept limit mode 0 W1 hX1 N hN0 hN1
                  rw [hme] at cm
                  simp only [if_true] at cm
                  rw [errV_zero] at cm
                  have CM := hid cm; have HR1 := hid hR1; have HB1 := hid hb1
                  clear cm hme hR1 hb1 hX1 hP1
                  go_wp2_with fail
                  refine CM.out.mono ?_
                  rintro e w2 ⟨rfl, hX2, hG2⟩
                  have hR2 := Blk.only HR1.out hG2 (fun e => hxr e.symm)
                  have hb2 := belowG HB1.out hG2 hgx0 HB1.out.size
                  have cb := hid (bare_ok .nilIface 0 w2 (HG.out.below hb2) .nil)
                  have HR2 := hid hR2; have HX2 := hid hX2; have HB2 := hid hb2
                  clear hR2 hX2 hb2 hG2
                  go_wp2_with fail
                  refine cb.out.mono ?_
                  rintro e w3 ⟨rfl, hb3⟩
                  have hX3 := Blk.below HX2.out hb3
                  have hR3 := Blk.below HR2.out hb3
                  have hB3 := HB2.out.trans (hb3.mono HB2.out.size)
                  go_wp2_with fail
                  have ck := fun (q : Nat) => hid ((fkept_any gx kept limit N 0 (w3.drewN q) (show FeedB (w3.drewN q) gx kept limit N 0 from hX3) (by omega)).mono (fun e w' q1 => (⟨q1.1, q1.2.symm⟩ : _ ∧ w' = w3.drewN q)))
                  have z0 := (Blk.cell hR3 0).trans (rfl : _ = some (Value.string (bs kept)))
                  have FIN : ∀ W, Below w3.heap.size w3 W → RFd l gx gr limit w (.int .i64 ((k : Int) + 1)) W := fun W hW => HKEY.out W kept N 0 (by omega) (by omega) (Blk.below hX3 hW) (Blk.below hR3 hW) (hB3.trans (hW.mono hB3.size))
                  have HFIN := hid FIN
                  clear FIN
                  go_quiet ((go_at_call 16; exact Calls.quiet_of_same (ck _).out))
                  go_wp2
                  go_roundw
                  case rel => exact HFIN.out _ (below_drewN (Below.refl _ _) _)
                  case measure => simp [intOf]; omega
                · have hbt : (bad != 0) = true := by simpa using hbad
                  rw [hbt] at r3
                  have hme : modeE bad N = 6 := by unfold modeE; rw [if_neg (by omega), if_neg hbad]
                  have cm := fmode_any gx kept limit mode bad wA HXA.out N hN0 hN1
                  rw [hme] at cm
                  simp only [if_neg (show ¬ (6 : Nat) = 0 by omega)] at cm
                  rw [errV_pos _ _ (by omega)] at cm
                  have CM := hid cm; clear cm hme

                  go_wp2_with fail
                  refine CM.out.mono ?_
                  rintro e w2 ⟨rfl, hX2, hG2⟩
                  have hR2 := Blk.only HRA.out hG2 (fun e => hxr e.symm)
                  have hb2 := belowG HbA.out hG2 hgx0 hBA
                  have cb := hid (bare_ok (.iface 31 (.int .i64 ((6 : Nat) : Int))) 6 w2 (HG.out.below hb2) (.bare 6 (by omega)))
                  have HR2 := hid hR2; have HX2 := hid hX2; have HB2 := hid hb2
                  clear hR2 hX2 hb2 hG2
                  go_wp2_with fail
                  refine cb.out.mono ?_
                  rintro e w3 ⟨rfl, hb3⟩
                  have hX3 := Blk.below HX2.out hb3
                  have hR3 := Blk.below HR2.out hb3
                  have hB3 := HB2.out.trans (hb3.mono HB2.out.size)
                  go_wp2_with fail
                  have ck := fun (q : Nat) => hid ((fkept_any gx kept limit mode bad (w3.drewN q) (show FeedB (w3.drewN q) gx kept limit mode bad from hX3) (by omega)).mono (fun e w' q1 => (⟨q1.1, q1.2.symm⟩ : _ ∧ w' = w3.drewN q)))
                  have z0 := (Blk.cell hR3 0).trans (rfl : _ = some (Value.string (bs kept)))
                  have FIN : ∀ W, Below w3.heap.size w3 W → RFd l gx gr limit w (.int .i64 ((k : Int) + 1)) W := fun W hW => HKEY.out W kept mode bad (by omega) (by omega) (Blk.below hX3 hW) (Blk.below hR3 hW) (hB3.trans (hW.mono hB3.size))
                  have HFIN := hid FIN
                  clear FIN
                  go_quiet ((go_at_call 16; exact Calls.quiet_of_same (ck _).out))
                  go_wp2
                  go_roundw
                  case rel => exact HFIN.out _ (below_drewN (Below.refl _ _) _)
                  case measure => simp [intOf]; omega
              have hk1b : (K == 1) = false := by simpa using hk1
              by_cases hk2 : K = 2
              · subst hk2
                have hkl' := feedP_len kept limit mode bad
                have hpl := feedP_pl kept limit mode bad (by omega)
                have cr := rnext_any gr limit mode kept bad wA HRA.out (by omega) hm hlim
                have cf := fun W (hX : FeedB W gx kept limit mode bad) (hb : Below w.heap.size w W) => hid (fnext_any gx limit mode kept bad W hX (by omega) hm hlim (HG.out.below hb) (HT.out.below hb (Nat.le_refl _)) (HP.out.below hb (Nat.le_refl _)))
                unfold RNextPost at cr
                unfold FNextPost at cf
                generalize feedP kept limit mode bad = R at *
                have CR := hid cr; have CF := hid cf
                clear cr cf
                go_wp2_with fail
                refine CR.out.mono ?_
                rintro e w1 ⟨v1, a1, rfl, hv1, ha1, hR1, hG1⟩
                have V1 := hv1
                have A1 := ha1
                obtain ⟨sa1, sc1, rfl, _⟩ := hv1
                obtain ⟨aa1, ac1, rfl, _⟩ := ha1
                have hX1 := Blk.only HXA.out hG1 hxr
                have hb1 := belowG HbA.out hG1 hgr0 hBA
                have hAl := (Below.refl w1.heap.size w1).alloc (Nat.le_refl _) (.cells #[.int .i64 R.pdu.op, .bool R.pdu.now, .int .i64 R.pdu.flags, .slice sa1 R.pdu.vals.length sc1, .slice aa1 R.pdu.ahs.length ac1, .string (bs R.pdu.data), .string (bs R.spoilt)] 42)
                have Q1 := Blk.new w1 42 #[.int .i64 R.pdu.op, .bool R.pdu.now, .int .i64 R.pdu.flags, .slice sa1 R.pdu.vals.length sc1, .slice aa1 R.pdu.ahs.length ac1, .string (bs R.pdu.data), .string (bs R.spoilt)]
                have hX1' := Blk.below hX1 hAl
                have hR1' := Blk.below hR1 hAl
                have V1' := V1.below (by omega) hAl
                have A1' := A1.below (by omega) hAl
                have hb1' := hb1.trans (hAl.mono hb1.size)
                have hqx : w1.heap.size ≠ gx := by have := Blk.lt hX1; omega
                obtain ⟨w1', hw1⟩ : ∃ W, w1.alloc (.cells #[.int .i64 R.pdu.op, .bool R.pdu.now, .int .i64 R.pdu.flags, .slice sa1 R.pdu.vals.length sc1, .slice aa1 R.pdu.ahs.length ac1, .string (bs R.pdu.data), .string (bs R.spoilt)] 42) = W := ⟨_, rfl⟩
                obtain ⟨pq, hpq⟩ : ∃ q, w1.heap.size = q := ⟨_, rfl⟩
                rw [hw1] at Q1 hX1' hR1' V1' A1' hb1'
                rw [hpq] at Q1 hqx
                have HQ1 := hid Q1; have HX1 := hid hX1'; have HR1 := hid hR1'; have HV1 := hid V1'; have HA1 := hid A1'; have HB1 := hid hb1'
                clear Q1 hX1' hR1' V1' A1' hb1' hAl hX1 hb1 V1 A1 hR1 hG1
                unfold pieceV
                go_wp2_with fail
                refine (CF.out w1' HX1.out HB1.out).out.mono ?_
                rintro e w2 ⟨v2, a2, rfl, hv2, ha2, hX2, hG2⟩
                have V2 := hv2
                have A2 := ha2
                obtain ⟨sa2, sc2, rfl, _⟩ := hv2
                obtain ⟨aa2, ac2, rfl, _⟩ := ha2
                have hR2 := Blk.only HR1.out hG2 (fun e => hxr e.symm)
                have Q2 := HQ1.out.only hG2 hqx
                have V1 := sl_grown HV1.out (by omega) hG2 (fun b o c e hn he => u64_far HV1.out HX1.out (feed_nou _ _ _ _) b o c e hn (Option.some.inj he))
                have A1 := sl_grown HA1.out (by omega) hG2 (fun b o c e hn he => ahs_far' HA1.out HX1.out (feed_noa _ _ _ _) b o c e hn (Option.some.inj he))
                have hb2 := belowG HB1.out hG2 hgx0 HB1.out.size
                have hAl := (Below.refl w2.heap.size w2).alloc (Nat.le_refl _) (.cells #[.int .i64 R.pdu.op, .bool R.pdu.now, .int .i64 R.pdu.flags, .slice sa2 R.pdu.vals.length sc2, .slice aa2 R.pdu.ahs.length ac2, .string (bs R.pdu.data), .string (bs R.spoilt)] 42)
                have N2 := Blk.new w2 42 #[.int .i64 R.pdu.op, .bool R.pdu.now, .int .i64 R.pdu.flags, .slice sa2 R.pdu.vals.length sc2, .slice aa2 R.pdu.ahs.length ac2, .string (bs R.pdu.data), .string (bs R.spoilt)]
                have hX2' := Blk.below hX2 hAl
                have hR2' := Blk.below hR2 hAl
                have Q2' := Q2.below hAl
                have V1' := V1.below (by omega) hAl
                have A1' := A1.below (by omega) hAl
                have V2' := V2.below (by omega) hAl
                have A2' := A2.below (by omega) hAl
                have hb2' := hb2.trans (hAl.mono hb2.size)
                obtain ⟨w2', hw2⟩ : ∃ W, w2.alloc (.cells #[.int .i64 R.pdu.op, .bool R.pdu.now, .int .i64 R.pdu.flags, .slice sa2 R.pdu.vals.length sc2, .slice aa2 R.pdu.ahs.length ac2, .string (bs R.pdu.data), .string (bs R.spoilt)] 42) = W := ⟨_, rfl⟩
                obtain ⟨pw, hpw⟩ : ∃ q, w2.heap.size = q := ⟨_, rfl⟩
                rw [hw2] at N2 hX2' hR2' Q2' V1' A1' V2' A2' hb2'
                rw [hpw] at N2
                have cb := hid (bare_ok (errV 31 R.e) R.e w2' (HG.out.below hb2') (ErrIs.errV w2' R.e))
                have HX2 := hid hX2'; have HR2 := hid hR2'; have HQ2 := hid Q2'; have HN2 := hid N2; have HV1 := hid V1'; have HA1 := hid A1'; have HV2 := hid V2'; have HA2 := hid A2'; have HB2 := hid hb2'
                clear hX2' hR2' Q2' N2 V1' A1' V2' A2' hb2' hAl V1 A1 V2 A2 Q2 hR2 hX2 hG2 hb2
                unfold pieceV
                go_wp2_with fail
                refine cb.out.mono ?_
                rintro e w3 ⟨rfl, hb3⟩
                have Q3 := HQ2.out.below hb3
                have N3 := HN2.out.below hb3
                have cS := hid (pc_same R.pdu.op R.pdu.now R.pdu.flags (.slice sa1 R.pdu.vals.length sc1) (.slice sa2 R.pdu.vals.length sc2) (.slice aa1 R.pdu.ahs.length ac1) (.slice aa2 R.pdu.ahs.length ac2) R.pdu.vals R.pdu.ahs R.pdu.data R.spoilt w3 hpl.1 hpl.2 (HV1.out.below (by omega) hb3) (HV2.out.below (by omega) hb3) (HA1.out.below (by omega) hb3) (HA2.out.below (by omega) hb3))
                unfold pieceV at cS
                have hX3 := Blk.below HX2.out hb3
                have hR3 := Blk.below HR2.out hb3
                have hB3 := HB2.out.trans (hb3.mono HB2.out.size)
                have y0 := (Q3.cell 0).trans (rfl : _ = some (Value.int .i64 R.pdu.op))
                have y1 := (Q3.cell 1).trans (rfl : _ = some (Value.bool R.pdu.now))
                have y2 := (Q3.cell 2).trans (rfl : _ = some (Value.int .i64 R.pdu.flags))
                have y3 := (Q3.cell 3).trans (rfl : _ = some (Value.slice sa1 R.pdu.vals.length sc1))
                have y4 := (Q3.cell 4).trans (rfl : _ = some (Value.slice aa1 R.pdu.ahs.length ac1))
                have y5 := (Q3.cell 5).trans (rfl : _ = some (Value.string (bs R.pdu.data)))
                have y6 := (Q3.cell 6).trans (rfl : _ = some (Value.string (bs R.spoilt)))
                have x0 := (N3.cell 0).trans (rfl : _ = some (Value.int .i64 R.pdu.op))
                have x1 := (N3.cell 1).trans (rfl : _ = some (Value.bool R.pdu.now))
                have x2 := (N3.cell 2).trans (rfl : _ = some (Value.int .i64 R.pdu.flags))
                have x3 := (N3.cell 3).trans (rfl : _ = some (Value.slice sa2 R.pdu.vals.length sc2))
                have x4 := (N3.cell 4).trans (rfl : _ = some (Value.slice aa2 R.pdu.ahs.length ac2))
                have x5 := (N3.cell 5).trans (rfl : _ = some (Value.string (bs R.pdu.data)))
                have x6 := (N3.cell 6).trans (rfl : _ = some (Value.string (bs R.spoilt)))
                have HX3 := hid hX3; have HR3 := hid hR3; have HB3 := hid hB3
                clear Q3 N3 hX3 hR3 hB3 cb
                go_wp2_with fail
                refine cS.out.mono ?_
                rintro e w4 ⟨rfl, hb4⟩
                have hX4 := Blk.below HX3.out hb4
                have hR4 := Blk.below HR3.out hb4
                have hB4 := HB3.out.trans (hb4.mono HB3.out.size)
                clear y0 y1 y2 y3 y4 y5 y6 x0 x1 x2 x3 x4 x5 x6 cS
                go_wp2_with fail
                have ck := fun (q : Nat) => hid ((fkept_any gx R.kept limit mode R.bad (w4.drewN q) (show FeedB (w4.drewN q) gx R.kept limit mode R.bad from hX4) (by omega)).mono (fun e w' q1 => (⟨q1.1, q1.2.symm⟩ : _ ∧ w' = w4.drewN q)))
                have z0 := (Blk.cell hR4 0).trans (rfl : _ = some (Value.string (bs R.kept)))
                have FIN : ∀ W, Below w4.heap.size w4 W → RFd l gx gr limit w (.int .i64 ((k : Int) + 1)) W := fun W hW => HKEY.out W R.kept mode R.bad (by omega) (by omega) (Blk.below hX4 hW) (Blk.below hR4 hW) (hB4.trans (hW.mono hB4.size))
                have HFIN := hid FIN
                clear FIN
                go_quiet ((go_at_call 16; exact Calls.quiet_of_same (ck _).out))
                go_wp2
                go_roundw
                case rel => exact HFIN.out _ (below_drewN (Below.refl _ _) _)
                case measure => simp [intOf]; omega
              have hk2b : (K == 2) = false := by simpa using hk2
              by_cases hk3 : K = 3
              · subst hk3
                have hK : ∀ W, wA.grownBy W (some gx) → EType W ∧ AS W ∧ PT W := fun W hW => by
                  have hbW := belowG HbA.out hW hgx0 hBA
                  exact ⟨HG.out.below hbW, HT.out.below hbW (Nat.le_refl _), HP.out.below hbW (Nat.le_refl _)⟩
                have ca := fall_any gx limit mode (kept, bad) wA HXA.out (show kept.length ≤ 1000000 by omega) hm hlim hK
                unfold FAllPost at ca
                have CA := hid ca; clear ca hK
                go_wp2_with fail
                refine CA.out.mono ?_
                rintro e w2 ⟨L, gv, rfl, hL, hno, hSl, hok, hX2, hG2⟩
                obtain ⟨ga, gc, rfl, _, hgc⟩ := hSl
                have hR2 := Blk.only HRA.out hG2 (fun e => hxr e.symm)
                have hb2 := belowG HbA.out hG2 hgx0 hBA
                have hall : ∀ j, j < L.length → (outP limit mode (kept, bad) j).ok = true := by
                  intro j hj
                  have := hL j L[j] (List.getElem?_eq_getElem hj)
                  rw [← this.1]; exact this.2
                have hseq : ∀ j, j ≤ L.length → (seqP limit mode (kept, bad) j).1.length + 48 * j ≤ kept.length := fun j hj => seqP_len limit mode (kept, bad) hm j (fun i hi => hall i (by omega))
                have hLn : L.length ≤ 1048576 := by have := hseq L.length (Nat.le_refl _); omega
                have HL := hid hL; have HNO := hid hno; have HOK := hid hok; have HGC := hid hgc; have HX2 := hid hX2; have HR2 := hid hR2; have HB2 := hid hb2; have HSEQ := hid hseq
                clear hL hno hok hgc hX2 hR2 hb2 hG2 hall hseq CA
                go_wp2
                go_loopw [170] (fun i wr => RIn L limit mode (kept, bad) gr w2 i wr) (fun i _ => L.length - (intOf i).toNat)
                case atStart => exact ⟨0, by omega, rfl, HR2.out, ⟨rfl, rfl, rfl, Nat.le_refl _, fun _ _ _ => rfl⟩⟩
                case round =>
                  obtain ⟨j, hj, rfl, hRj, hGj⟩ := hrel
                  have hsj := HSEQ.out j hj
                  have hbj := belowG HB2.out hGj hgr0 HB2.out.size
                  have hXj := Blk.only HX2.out hGj hxr
                  by_cases hlt : j < L.length
                  · obtain ⟨x, hx⟩ : ∃ x, L[j]? = some x := ⟨L[j], List.getElem?_eq_getElem hlt⟩
                    obtain ⟨hx1, hxok⟩ := HL.out j x hx
                    have hP2 := HOK.out x (List.mem_of_getElem? hx)
                    obtain ⟨gb, go', rfl, hgcell⟩ := HGC.out.resolve_left (by omega)
                    have cl : ∀ q u, q < 7 → (pcCells x)[q]? = some u → w2.cell? ⟨gb, go' + (j * 7 + q), none⟩ = some u := fun q u hq hu => hgcell _ _ (by rw [pcs_at L j q x hx hq]; exact hu)
                    have hgbr : some gb ≠ some gr := by
                      intro e
                      cases e
                      have h3 := cl 3 _ (by omega) rfl
                      rw [Blk.cell HR2.out] at h3
                      generalize go' + (j * 7 + 3) = q at h3
                      rcases q with _ | _ | _ | _ | q <;> simp [pcV] at h3
                    obtain ⟨X, ⟨sb, sd⟩, ⟨ab, ad⟩⟩ := x
                    simp only at hx1 hxok
                    have g0 : wr.cell? ⟨gb, go' + j * 7, none⟩ = some (Value.int .i64 X.pdu.op) := hGj.cell (cl 0 _ (by omega) rfl) hgbr
                    have g1 : wr.cell? ⟨gb, go' + j * 7 + 1, none⟩ = some (Value.bool X.pdu.now) := hGj.cell (cl 1 _ (by omega) rfl) hgbr
                    have g2 : wr.cell? ⟨gb, go' + j * 7 + 2, none⟩ = some (Value.int .i64 X.pdu.flags) := hGj.cell (cl 2 _ (by omega) rfl) hgbr
                    have g3 : wr.cell? ⟨gb, go' + j * 7 + 3, none⟩ = some (Value.slice sb X.pdu.vals.length sd) := hGj.cell (cl 3 _ (by omega) rfl) hgbr
                    have g4 : wr.cell? ⟨gb, go' + j * 7 + 4, none⟩ = some (Value.slice ab X.pdu.ahs.length ad) := hGj.cell (cl 4 _ (by omega) rfl) hgbr
                    have g5 : wr.cell? ⟨gb, go' + j * 7 + 5, none⟩ = some (Value.string (bs X.pdu.data)) := hGj.cell (cl 5 _ (by omega) rfl) hgbr
                    have g6 : wr.cell? ⟨gb, go' + j * 7 + 6, none⟩ = some (Value.string (bs X.spoilt)) := hGj.cell (cl 6 _ (by omega) rfl) hgbr
                    have hPj : PcOk wr (X, (sb, sd), (ab, ad)) := pcOk_grown hP2 hGj (fun b o c e hn he => u64_far hP2.1 HR2.out (rfeed_nou _ _ _ _) b o c e hn (Option.some.inj he)) (fun b o c e hn he => ahs_far' hP2.2 HR2.out (rfeed_noa _ _ _ _) b o c e hn (Option.some.inj he))
                    obtain ⟨hPv, hPa⟩ := hPj
                    have hPv : Sl wr (Value.slice sb X.pdu.vals.length sd) 1 X.pdu.vals.length (u64Cells X.pdu.vals) := hPv
                    have hPa : Sl wr (Value.slice ab X.pdu.ahs.length ad) 2 X.pdu.ahs.length (ahsCells X.pdu.ahs) := hPa
                    have hsz : (seqP limit mode (kept, bad) j).1.length ≤ 900000 := by omega
                    have hpl := feedP_pl (seqP limit mode (kept, bad) j).1 limit mode (seqP limit mode (kept, bad) j).2 hsz
                    have hokj := feedP_ok (seqP limit mode (kept, bad) j).1 limit mode (seqP limit mode (kept, bad) j).2 hm
                    have hsucc := seqP_succ limit mode (kept, bad) j
                    have hfe : feedP (seqP limit mode (kept, bad) j).1 limit mode (seqP limit mode (kept, bad) j).2 = X := hx1.symm
                    rw [hfe] at hpl hokj
                    rw [← hx1] at hsucc
                    have hX0 : X.e = 0 := (hokj hxok).2.2
                    have cr := fun W (h : RFeedB W gr (seqP limit mode (kept, bad) j).1 limit mode (seqP limit mode (kept, bad) j).2) => hid (rnext_any gr limit mode (seqP limit mode (kept, bad) j).1 (seqP limit mode (kept, bad) j).2 W h (by omega) hm hlim)
                    unfold RNextPost at cr
                    rw [hfe] at cr
                    simp only [hX0, hxok] at cr
                    have CR := hid cr
                    have hAl := (Below.refl wr.heap.size wr).alloc (Nat.le_refl _) (.cells #[.int .i64 X.pdu.op, .bool X.pdu.now, .int .i64 X.pdu.flags, Value.slice sb X.pdu.vals.length sd, Value.slice ab X.pdu.ahs.length ad, .string (bs X.pdu.data), .string (bs X.spoilt)] 42)
                    have Q1 := Blk.new wr 42 #[.int .i64 X.pdu.op, .bool X.pdu.now, .int .i64 X.pdu.flags, Value.slice sb X.pdu.vals.length sd, Value.slice ab X.pdu.ahs.length ad, .string (bs X.pdu.data), .string (bs X.spoilt)]
                    have hR1 := Blk.below hRj hAl
                    have V2 := hPv.below (by omega) hAl
                    have A2 := hPa.below (by omega) hAl
                    have hG1 := grownT hGj (grownL hAl (Nat.le_refl _) (some gr))
                    have hqr : wr.heap.size ≠ gr := by have := Blk.lt hRj; omega
                    obtain ⟨wq, hwq⟩ : ∃ W, wr.alloc (.cells #[.int .i64 X.pdu.op, .bool X.pdu.now, .int .i64 X.pdu.flags, Value.slice sb X.pdu.vals.length sd, Value.slice ab X.pdu.ahs.length ad, .string (bs X.pdu.data), .string (bs X.spoilt)] 42) = W := ⟨_, rfl⟩
                    obtain ⟨pq, hpq⟩ : ∃ q, wr.heap.size = q := ⟨_, rfl⟩
                    rw [hwq] at Q1 hR1 V2 A2 hG1
                    rw [hpq] at Q1 hqr
                    have HQ1 := hid Q1; have HR1 := hid hR1; have HV2 := hid V2; have HA2 := hid A2; have HG1 := hid hG1
                    clear hx1 Q1 hR1 V2 A2 hG1 hAl cr cl hgcell hPv hPa hP2 hx hokj hfe hGj hRj hXj hbj hsz
                    go_wp2_with fail
                    refine (CR.out wq HR1.out).out.mono ?_
                    rintro e w4 ⟨v1, a1, rfl, hv1, ha1, hR4, hG4⟩
                    have V1 := hv1
                    have A1 := ha1
                    obtain ⟨sa1, sc1, rfl, _⟩ := hv1
                    obtain ⟨aa1, ac1, rfl, _⟩ := ha1
                    have Q4 := HQ1.out.only hG4 hqr
                    have V2 := sl_grown HV2.out (by omega) hG4 (fun b o c e hn he => u64_far HV2.out HR1.out (rfeed_nou _ _ _ _) b o c e hn (Option.some.inj he))
                    have A2 := sl_grown HA2.out (by omega) hG4 (fun b o c e hn he => ahs_far' HA2.out HR1.out (rfeed_noa _ _ _ _) b o c e hn (Option.some.inj he))
                    have hG5 := grownT HG1.out hG4
                    have hAl := (Below.refl w4.heap.size w4).alloc (Nat.le_refl _) (.cells #[.int .i64 X.pdu.op, .bool X.pdu.now, .int .i64 X.pdu.flags, Value.slice sa1 X.pdu.vals.length sc1, Value.slice aa1 X.pdu.ahs.length ac1, .string (bs X.pdu.data), .string (bs X.spoilt)] 42)
                    have N5 := Blk.new w4 42 #[.int .i64 X.pdu.op, .bool X.pdu.now, .int .i64 X.pdu.flags, Value.slice sa1 X.pdu.vals.length sc1, Value.slice aa1 X.pdu.ahs.length ac1, .string (bs X.pdu.data), .string (bs X.spoilt)]
                    have Q5 := Q4.below hAl
                    have hR5 := Blk.below hR4 hAl
                    have V1' := V1.below (by omega) hAl
                    have A1' := A1.below (by omega) hAl
                    have V2' := V2.below (by omega) hAl
                    have A2' := A2.below (by omega) hAl
                    have hG5' := grownT hG5 (grownL hAl (Nat.le_refl _) (some gr))
                    obtain ⟨w5, hw5⟩ : ∃ W, w4.alloc (.cells #[.int .i64 X.pdu.op, .bool X.pdu.now, .int .i64 X.pdu.flags, Value.slice sa1 X.pdu.vals.length sc1, Value.slice aa1 X.pdu.ahs.length ac1, .string (bs X.pdu.data), .string (bs X.spoilt)] 42) = W := ⟨_, rfl⟩
                    obtain ⟨pn, hpn⟩ : ∃ q, w4.heap.size = q := ⟨_, rfl⟩
                    rw [hw5] at N5 Q5 hR5 V1' A1' V2' A2' hG5'
                    rw [hpn] at N5
                    have cS := hid (pc_same X.pdu.op X.pdu.now X.pdu.flags (.slice sa1 X.pdu.vals.length sc1) (.slice sb X.pdu.vals.length sd) (.slice aa1 X.pdu.ahs.length ac1) (.slice ab X.pdu.ahs.length ad) X.pdu.vals X.pdu.ahs X.pdu.data X.spoilt w5 hpl.1 hpl.2 V1' V2' A1' A2')
                    unfold pieceV at cS
                    have KEYI : ∀ W, Below w5.heap.size w5 W → RIn L limit mode (kept, bad) gr w2 (.int .i64 ((j : Int) + 1)) W := fun W hW => ⟨j + 1, by omega, by go_num, by rw [hsucc]; exact Blk.below hR5 hW, grownT hG5' (grownL hW (Nat.le_refl _) (some gr))⟩
                    have HKI := hid KEYI
                    have y0 := (N5.cell 0).trans (rfl : _ = some (Value.int .i64 X.pdu.op))
                    have y1 := (N5.cell 1).trans (rfl : _ = some (Value.bool X.pdu.now))
                    have y2 := (N5.cell 2).trans (rfl : _ = some (Value.int .i64 X.pdu.flags))
                    have y3 := (N5.cell 3).trans (rfl : _ = some (Value.slice sa1 X.pdu.vals.length sc1))
                    have y4 := (N5.cell 4).trans (rfl : _ = some (Value.slice aa1 X.pdu.ahs.length ac1))
                    have y5 := (N5.cell 5).trans (rfl : _ = some (Value.string (bs X.pdu.data)))
                    have y6 := (N5.cell 6).trans (rfl : _ = some (Value.string (bs X.spoilt)))
                    have z0 := (Q5.cell 0).trans (rfl : _ = some (Value.int .i64 X.pdu.op))
                    have z1 := (Q5.cell 1).trans (rfl : _ = some (Value.bool X.pdu.now))
                    have z2 := (Q5.cell 2).trans (rfl : _ = some (Value.int .i64 X.pdu.flags))
                    have z3 := (Q5.cell 3).trans (rfl : _ = some (Value.slice sb X.pdu.vals.length sd))
                    have z4 := (Q5.cell 4).trans (rfl : _ = some (Value.slice ab X.pdu.ahs.length ad))
                    have z5 := (Q5.cell 5).trans (rfl : _ = some (Value.string (bs X.pdu.data)))
                    have z6 := (Q5.cell 6).trans (rfl : _ = some (Value.string (bs X.spoilt)))
                    clear KEYI N5 Q5 Q4 hR5 V1' A1' V2' A2' hG5' V1 A1 V2 A2 hAl hR4 hG4 hG5 CR
                    unfold pieceV
                    go_wp2_with fail
                    refine cS.out.mono ?_
                    rintro e w6 ⟨rfl, hb6⟩
                    clear cS y0 y1 y2 y3 y4 y5 y6 z0 z1 z2 z3 z4 z5 z6
                    go_wp2
                    go_roundw
                    case rel => exact HKI.out _ hb6
                    case measure => simp [intOf]; omega
                  · obtain rfl : j = L.length := by omega
                    have hno := HNO.out
                    have cr := fun W (h : RFeedB W gr (seqP limit mode (kept, bad) L.length).1 limit mode (seqP limit mode (kept, bad) L.length).2) => hid (rnext_any gr limit mode (seqP limit mode (kept, bad) L.length).1 (seqP limit mode (kept, bad) L.length).2 W h (by omega) hm hlim)
                    unfold RNextPost at cr
                    have hfe : feedP (seqP limit mode (kept, bad) L.length).1 limit mode (seqP limit mode (kept, bad) L.length).2 = outP limit mode (kept, bad) L.length := rfl
                    have hkl2 := feedP_len (seqP limit mode (kept, bad) L.length).1 limit mode (seqP limit mode (kept, bad) L.length).2
                    rw [hfe] at cr hkl2
                    have hX2 := HX2.out
                    generalize outP limit mode (kept, bad) L.length = R at *
                    simp only [hno] at cr
                    have CR := hid cr; clear cr hfe
                    have hXj' : FeedB wr gx R.kept limit mode R.bad := hXj
                    clear hX2
                    go_wp2_with fail
                    refine (CR.out wr hRj).out.mono ?_
                    rintro e w4 ⟨v1, a1, rfl, hv1, ha1, hR4, hG4⟩
                    obtain ⟨sa1, sc1, rfl, _⟩ := hv1
                    obtain ⟨aa1, ac1, rfl, _⟩ := ha1
                    have hX4 := Blk.only hXj' hG4 hxr
                    have hb4 := belowG hbj hG4 hgr0 hbj.size
                    have hAl := (Below.refl w4.heap.size w4).alloc (Nat.le_refl _) (.cells #[.int .i64 R.pdu.op, .bool R.pdu.now, .int .i64 R.pdu.flags, Value.slice sa1 R.pdu.vals.length sc1, Value.slice aa1 R.pdu.ahs.length ac1, .string (bs R.pdu.data), .string (bs R.spoilt)] 42)
                    have hX5 := Blk.below hX4 hAl
                    have hR5 := Blk.below hR4 hAl
                    have hb5 := hb4.trans (hAl.mono hb4.size)
                    obtain ⟨w5, hw5⟩ : ∃ W, w4.alloc (.cells #[.int .i64 R.pdu.op, .bool R.pdu.now, .int .i64 R.pdu.flags, Value.slice sa1 R.pdu.vals.length sc1, Value.slice aa1 R.pdu.ahs.length ac1, .string (bs R.pdu.data), .string (bs R.spoilt)] 42) = W := ⟨_, rfl⟩
                    rw [hw5] at hX5 hR5 hb5
                    have cb := hid (bare_ok (errV 31 R.e) R.e w5 (HG.out.below hb5) (ErrIs.errV w5 R.e))
                    have HX5 := hid hX5; have HR5 := hid hR5; have HB5 := hid hb5
                    clear hX5 hR5 hb5 hAl hX4 hb4 hR4 hG4 hXj hXj' hRj hbj hGj CR
                    unfold pieceV
                    go_wp2_with fail
                    refine cb.out.mono ?_
                    rintro e w6 ⟨rfl, hb6⟩
                    have hX6 := Blk.below HX5.out hb6
                    have hR6 := Blk.below HR5.out hb6
                    have hB6 := HB5.out.trans (hb6.mono HB5.out.size)
                    go_wp2_with fail
                    have ck := fun (q : Nat) => hid ((fkept_any gx R.kept limit mode R.bad (w6.drewN q) (show FeedB (w6.drewN q) gx R.kept limit mode R.bad from hX6) (by omega)).mono (fun e w' q1 => (⟨q1.1, q1.2.symm⟩ : _ ∧ w' = w6.drewN q)))
                    have z0 := (Blk.cell hR6 0).trans (rfl : _ = some (Value.string (bs R.kept)))
                    have FIN : ∀ W, Below w6.heap.size w6 W → RFd l gx gr limit w (.int .i64 ((k : Int) + 1)) W := fun W hW => HKEY.out W R.kept mode R.bad (by omega) (by omega) (Blk.below hX6 hW) (Blk.below hR6 hW) (hB6.trans (hW.mono hB6.size))
                    have HFIN := hid FIN
                    clear FIN
                    go_quiet ((go_at_call 16; exact Calls.quiet_of_same (ck _).out))
                    go_wp2
                    go_roundw
                    case rel => exact HFIN.out _ (below_drewN (Below.refl _ _) _)
                    case measure => simp [intOf]; omega
              have hk3b : (K == 3) = false := by simpa using hk3
              · have hX3 := HXA.out
                have hR3 := HRA.out
                have hB3 := HbA.out
                go_wp2_with fail
                have ck := fun (q : Nat) => hid ((fkept_any gx kept limit mode bad (wA.drewN q) (show FeedB (wA.drewN q) gx kept limit mode bad from hX3) (by omega)).mono (fun e w' q1 => (⟨q1.1, q1.2.symm⟩ : _ ∧ w' = wA.drewN q)))
                have z0 := (Blk.cell hR3 0).trans (rfl : _ = some (Value.string (bs kept)))
                have FIN : ∀ W, Below wA.heap.size wA W → RFd l gx gr limit w (.int .i64 ((k : Int) + 1)) W := fun W hW => HKEY.out W kept mode bad (by omega) (by omega) (Blk.below hX3 hW) (Blk.below hR3 hW) (hB3.trans (hW.mono hB3.size))
                have HFIN := hid FIN
                clear FIN
                go_quiet ((go_at_call 16; exact Calls.quiet_of_same (ck _).out))
                go_wp2
                go_roundw
                case rel => exact HFIN.out _ (below_drewN (Below.refl _ _) _)
                case measure => simp [intOf]; omega
            · go_wp2
              go_ret
              exact ⟨rfl, hb⟩
theorem feedPlays_row (lim : Int) (v : Value) (l : List A3) (w : World) (h0 : -9223372036854775808 ≤ lim) (h1 : lim ≤ 9223372036854775807) (hs : AcSl w v l) (hbd : AcBd l) (hL : laidMetH Tryz.prog Rows.feedPlaysUptoRow.laid w) :
    Calls Tryz.prog 3 #[.int .i64 lim, v] w fun e w' => e = .returned (.bool true) ∧ Below w.heap.size w w' :=
  feedPlays_law lim v l w hs hbd h0 h1 (cardBase.etype_of_laid (by simp [Rows.feedPlaysUptoRow]) hL)
    (cardBase.tab_of_laid (n := 256) (t := 262) (e := 5) (L := Rows.feedPlaysUptoRow.laid) (by kernel_rfl) asName (by kernel_rfl) Tryz.underlying262 Tryz.underlying5 (by kernel_rfl) (by kernel_rfl) hL)
    (cardBase.tab_of_laid (n := 20) (t := 329) (e := 122) (L := Rows.feedPlaysUptoRow.laid) (by kernel_rfl) ptName (by kernel_rfl) Tryz.underlying329 Tryz.underlying122 (by kernel_rfl) (by kernel_rfl) hL)
end Go.Proofs.YtfeenkofnbefaaaGreatDoor
