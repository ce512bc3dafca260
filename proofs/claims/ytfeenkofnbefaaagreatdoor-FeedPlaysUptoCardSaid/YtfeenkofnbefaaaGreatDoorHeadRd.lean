/- The head that 48 bytes are: by the program. -/
import Derived.Test.YtfeenkofnbefaaaGreatDoorInv
import Derived.Deep.RegionHeld
set_option linter.unusedSectionVars false
set_option linter.unusedSimpArgs false
set_option linter.unusedVariables false
namespace Go.Proofs.YtfeenkofnbefaaaGreatDoor
open Go Go.RowKit
set_option linter.unusedVariables false
set_option linter.unusedSectionVars false
set_option linter.unusedSimpArgs false
set_option maxRecDepth 100000
def RRd (r : HR) (s : List UInt8) (op : Int) (nw : Bool) (fl : Int) (w W4 : World) (i : Value) (wr : World) : Prop :=
  ∃ (k : Nat) (v : Value), k ≤ r.fields.length ∧ i = .int .i64 (k : Nat) ∧ Blk wr w.heap.size 37 (HC op nw fl v) ∧ wr.ownsRow W4.heap.size 122 1 v k (u64Cells ((valsOf r s).take k)) ∧ KeepBut w.heap.size W4 wr ∧ Below w.heap.size w wr
section
variable (s : List UInt8) (w : World) (hs : s.length ≤ 1000) (hT : AS w) (hP : PT w)
include hs hT hP
set_option maxHeartbeats 4000000 in
theorem read_any : Calls Tryz.prog 82 #[.string (bs s)] w fun e w' => ReadPost (readH s) w e w' := by
  have c2 := fun op h0 h1 w1 (hb : Below w.heap.size w w1) => hid (hfields_any op h0 h1 w1 (hT.below hb (Nat.le_refl _)) (hP.below hb (Nat.le_refl _)))
  have c3 := fun op now flags v vs w1 h0 h1 g0 g1 hn hv (hb : Below w.heap.size w w1) (hsl : Sl w1 v 1 vs.length (u64Cells vs)) => hid (right_any op now flags v vs w1 h0 h1 g0 g1 hn hv hsl (hT.below hb (Nat.le_refl _)) (hP.below hb (Nat.le_refl _)))
  have c4 := fun op now flags v vs words data w1 h0 h1 g0 g1 hn hv (hb : Below w.heap.size w w1) (hsl : Sl w1 v 1 vs.length (u64Cells vs)) => hid (write_any op now flags v vs words data w1 h0 h1 g0 g1 hn hv hsl (hT.below hb (Nat.le_refl _)) (hP.below hb (Nat.le_refl _)))
  have C2 := hid c2; have C3 := hid c3; have C4 := hid c4
  clear hT hP c2 c3 c4
  have b1 := (Below.refl w.heap.size w).alloc (Nat.le_refl _) (.cells #[.int .i64 0, .bool false, .int .i64 0, .slice none 0 0] 37)
  have B1 := Blk.new w 37 #[.int .i64 0, .bool false, .int .i64 0, .slice none 0 0]
  by_cases hl : s.length = 48
  · obtain ⟨x0, hx0⟩ : ∃ x, s[0]'(by omega) = x := ⟨_, rfl⟩
    obtain ⟨x1, hx1⟩ : ∃ x, s[1]'(by omega) = x := ⟨_, rfl⟩
    obtain ⟨x4, hx4⟩ : ∃ x, s[4]'(by omega) = x := ⟨_, rfl⟩
    obtain ⟨x5, hx5⟩ : ∃ x, s[5]'(by omega) = x := ⟨_, rfl⟩
    obtain ⟨x6, hx6⟩ : ∃ x, s[6]'(by omega) = x := ⟨_, rfl⟩
    obtain ⟨x7, hx7⟩ : ∃ x, s[7]'(by omega) = x := ⟨_, rfl⟩
    have e0 : s.getD 0 0 = x0 := by rw [← hx0]; simp [List.getD, hl]
    have e1 : s.getD 1 0 = x1 := by rw [← hx1]; simp [List.getD, hl]
    have e4 : s.getD 4 0 = x4 := by rw [← hx4]; simp [List.getD, hl]
    have EO : hOp s = ((x0.toNat % 64 : Nat) : Int) := by unfold hOp; rw [e0]
    have EN : hNow s = decide (64 ≤ x0.toNat) := by unfold hNow; rw [e0]
    have EF : hFl s = (x1.toNat : Int) := by unfold hFl; rw [e1]
    have EW : hWords s = (x4.toNat : Int) := by unfold hWords; rw [e4]
    have ED : hData s = (num [x5, x6, x7] : Nat) := by
      unfold hData
      have : (s.drop 5).take 3 = [x5, x6, x7] := by
        rw [List.drop_eq_getElem_cons (show 5 < s.length by omega), List.drop_eq_getElem_cons (show 6 < s.length by omega), List.drop_eq_getElem_cons (show 7 < s.length by omega), hx5, hx6, hx7]
        rfl
      rw [this]
    have E0 := hid e0
    clear e0 e1 e4
    by_cases h0 : 128 ≤ x0.toNat
    · have HR := hid (show readH s = readNo 3 by unfold readH; rw [if_neg (by omega), E0.out, if_pos h0])
      have hd : decide ((128 : Int) ≤ (x0.toNat : Int)) = true := decide_eq_true (by omega)
      clear EO EN EF EW ED
      go_enter Tryz.func82, Tryz.ntmps82
      go_wp2
      refine bodyPost_ret (v := .tuple #[headV 0 false 0 (.slice none 0 0), .int .i64 0, .int .i64 0, .iface 31 (.int .i64 3)]) (by simp [results, Tryz.results82, go_sem]; rfl) rfl ?_
      exact ⟨_, _, by rw [HR.out]; rfl, by rw [HR.out]; exact .bare 3 (by omega), by rw [HR.out]; exact sl_nil _ _, b1⟩
    · have hd : decide ((128 : Int) ≤ (x0.toNat : Int)) = false := decide_eq_false (by omega)
      have a63 := and63 x0
      have a64 := and64 x0 (by omega)
      rw [← EO] at a63
      have ho0 : 0 ≤ hOp s ∧ hOp s < 64 := by rw [EO]; omega
      obtain ⟨y, hy, hyn⟩ : ∃ y : Int, bits .and .u8 (x0.toNat : Int) 64 = y ∧ (y != 0) = hNow s := by
        refine ⟨_, a64, ?_⟩
        rw [EN]
        by_cases h : 64 ≤ x0.toNat <;> simp [h]
      have hrd : readH s = readO s (findH (hOp s)) := by unfold readH; rw [if_neg (by omega), E0.out, if_neg (by omega)]
      have hrn : findH (hOp s) = none → readH s = readNo 1 := fun h => by rw [hrd, h]; rfl
      have hrs : ∀ r, findH (hOp s) = some r → readH s = if wrongH (hOp s) (hNow s) (hFl s) r.flags then readNo 3 else if spoilt r s then readNo 3 else ⟨0, hOp s, hNow s, hFl s, valsOf r s, hWords s, hData s⟩ := fun r h => by rw [hrd, h]; rfl
      have hrr := fun r (hf : findH (hOp s) = some r) => right_read r s hl hf
      have hwb := fun r (hr : r ∈ headRows) => write_back r hr s hl (by rw [E0.out]; omega)
      rw [EF, EW, ED] at hrs hwb
      rw [EF] at hrr
      have HRR := hid hrr; have HWB := hid hwb; have HRS := hid hrs; have HRN := hid hrn
      clear EO EN EF EW ED a64 hrr hwb hrs hrn hrd
      have hx1w : IntKind.i64.wrap (x1.toNat : Int) = (x1.toNat : Int) := by have := x1.toNat_lt; rw [IntKind.wrap_i64]; omega
      generalize hOp s = op at *
      generalize hNow s = nw at *
      clear E0
      go_enter Tryz.func82, Tryz.ntmps82
      go_wp2
      have hmx : Tryz.prog.follows .mixedOrders = true := by kernel_rfl
      refine wpIn_wide (n := 4).1 ?_
      refine region_last (aF := ?kA) 12 [(24, .string (bs s)), (25, .int .u8 (x0.toNat : Int)), (26, .int .u8 op), (27, .int .i64 op), (28, .string (bs s)), (29, .int .u8 (x0.toNat : Int)), (30, .int .u8 y), (31, .bool nw), (32, .string (bs s)), (33, .int .u8 (x1.toNat : Int)), (34, .int .i64 (x1.toNat : Int)), (35, .agg #[.int .i64 op, .bool nw, .int .i64 (x1.toNat : Int), .slice none 0 0])] (fun W => Below (w.heap.size + 1) (w.alloc (.cells #[.int .i64 0, .bool false, .int .i64 0, .slice none 0 0] 37)) W) ?kB hmx rfl (by kernel_rfl) (by kernel_rfl) (fun w w' h hb => h.trans (hb.mono (by have := h.size; simpa using this))) (Below.refl _ _).drew ?kC rfl ?kD
      case kB =>
        simp only [putAll, List.foldl_cons, List.foldl_nil, List.setIfInBounds_toArray, List.set_cons_zero, List.set_cons_succ]
        exact rfl
      case kC =>
        have hrf : ∀ w : World, Below w.heap.size w w := fun w => Below.refl _ w
        have hw8 : IntKind.i64.wrap op = op := by rw [IntKind.wrap_i64]; omega
        refine ⟨?_, ?_, ?_, ?_, ?_, ?_, ?_, ?_, ?_, ?_, ?_, ?_, trivial⟩
        all_goals refine ⟨by simp, fun W h => ⟨by simp [go_sem, Oper.about], ?_⟩⟩
        all_goals clear h
        all_goals simp [OpTo, go_sem, hrf, hl, hx0, hx1, a63, hy, hyn, hw8, hx1w]
      case kD =>
        intro W hW
        have hW : Below (w.alloc (.cells #[.int .i64 0, .bool false, .int .i64 0, .slice none 0 0] 37)).heap.size (w.alloc (.cells #[.int .i64 0, .bool false, .int .i64 0, .slice none 0 0] 37)) W := by simpa using hW
        have B2 := B1.below hW
        have b2 := b1.trans (hW.mono b1.size)
        have v0 := B2.free 0; have v1 := B2.free 1; have v2 := B2.free 2; have v3 := B2.free 3
        have t0 : W.cell? ⟨w.heap.size, 0, none⟩ = some (.int .i64 0) := (B2.cell 0).trans rfl
        have t1 : W.cell? ⟨w.heap.size, 1, none⟩ = some (.bool false) := (B2.cell 1).trans rfl
        have t2 : W.cell? ⟨w.heap.size, 2, none⟩ = some (.int .i64 0) := (B2.cell 2).trans rfl
        have t3 : W.cell? ⟨w.heap.size, 3, none⟩ = some (.slice none 0 0) := (B2.cell 3).trans rfl
        have B3 : Blk ((((W.setCell ⟨w.heap.size, 0, none⟩ (.int .i64 op)).setCell ⟨w.heap.size, 1, none⟩ (.bool nw)).setCell ⟨w.heap.size, 2, none⟩ (.int .i64 (x1.toNat : Int))).setCell ⟨w.heap.size, 3, none⟩ (.slice none 0 0)) w.heap.size 37 (HC op nw (x1.toNat : Int) (.slice none 0 0)) := (((B2.set 0 _).set 1 _).set 2 _).set 3 _
        have b3 := below_setc (below_setc (below_setc (below_setc b2 (Nat.le_refl w.heap.size) 0 (.int .i64 op)) (Nat.le_refl w.heap.size) 1 (.bool nw)) (Nat.le_refl w.heap.size) 2 (.int .i64 (x1.toNat : Int))) (Nat.le_refl w.heap.size) 3 (.slice none 0 0)
        clear hW B1 b1 B2 b2 a63 hy hyn
        gi_wp2
        generalize hWd : (((W.setCell ⟨w.heap.size, 0, none⟩ (.int .i64 op)).setCell ⟨w.heap.size, 1, none⟩ (.bool nw)).setCell ⟨w.heap.size, 2, none⟩ (.int .i64 (x1.toNat : Int))).setCell ⟨w.heap.size, 3, none⟩ (.slice none 0 0) = W3 at *
        clear hWd v0 v1 v2 v3 t0 t1 t2 t3
        have t0 : W3.cell? ⟨w.heap.size, 0, none⟩ = some (.int .i64 op) := (B3.cell 0).trans rfl
        go_wp2_with fail
        have hC2 := (C2.out op (by omega) (by omega) _ b3).out
        unfold FieldsPost at hC2
        cases hf : findH op with
        | none =>
          rw [hf] at hC2
          have HR := hid (HRN.out hf)
          refine hC2.mono ?_
          rintro e W4 ⟨fv, rfl, _, hnil, hb4⟩
          obtain rfl := hnil (by trivial)
          have B4 := B3.below hb4
          have b4 := b3.trans (hb4.mono b3.size)
          have v0 := B4.free 0; have v1 := B4.free 1; have v2 := B4.free 2; have v3 := B4.free 3
          have t0 : W4.cell? ⟨w.heap.size, 0, none⟩ = some (.int .i64 op) := (B4.cell 0).trans rfl
          have t1 : W4.cell? ⟨w.heap.size, 1, none⟩ = some (.bool nw) := (B4.cell 1).trans rfl
          have t2 : W4.cell? ⟨w.heap.size, 2, none⟩ = some (.int .i64 (x1.toNat : Int)) := (B4.cell 2).trans rfl
          have t3 : W4.cell? ⟨w.heap.size, 3, none⟩ = some (.slice none 0 0) := (B4.cell 3).trans rfl
          simp only [HErr, hE, errV]
          go_wp2
          refine bodyPost_ret (v := .tuple #[headV 0 false 0 (.slice none 0 0), .int .i64 0, .int .i64 0, .iface 31 (.int .i64 1)]) (by simp [results, Tryz.results82, go_sem, t0, t1, t2, t3]; rfl) rfl ?_
          refine ⟨_, _, by rw [HR.out]; rfl, by rw [HR.out]; exact .bare 1 (by omega), by rw [HR.out]; exact sl_nil _ _, ?_⟩
          iterate 4 refine below_setc ?_ (Nat.le_refl w.heap.size) _ _
          exact b4
        | some r =>
          rw [hf] at hC2
          have hmem := findH_mem hf
          have hn0 := fields_pos r hmem
          have hnf := (head_fine r hmem).2.2.2.2.2.2.1
          have hsz := (head_fine r hmem).2.2.2.2.2.2.2
          have Hsz := hid hsz; clear hsz
          have HR := hid (HRS.out r hf)
          have HRR := hid (HRR.out r hf)
          have HWB := hid (HWB.out r hmem)
          simp only [HErr, hE, errV, hFields] at hC2
          refine hC2.mono ?_
          rintro e W4 ⟨fv, rfl, hfs, _, hb4⟩
          have B4 := B3.below hb4
          have b4 := b3.trans (hb4.mono b3.size)
          obtain ⟨fb, fo, fc, rfl, hfb, hfc⟩ := fields_open hfs hn0
          have hfg : fb ≠ w.heap.size := by
            intro e
            obtain ⟨f, hf0⟩ : ∃ f, r.fields[0]? = some f := ⟨r.fields[0], List.getElem?_eq_getElem hn0⟩
            have h1 := (hfc 0 f hf0).1
            rw [e, B4.cell] at h1
            rcases hq : fo with _ | _ | _ | _ | fo <;> rw [hq] at h1 <;> simp [HC] at h1
          have HFC := hid hfc
          have hlt4 := B4.lt
          clear hfc hfs B3 b3 hb4
          go_wp2
          go_loopw [48] (fun i wr => RRd r s op nw (x1.toNat : Int) w W4 i wr) (fun i _ => r.fields.length - (intOf i).toNat)
          case atStart => exact ⟨0, _, by omega, rfl, B4, World.ownsRow_nil _ _ _ _, KeepBut.refl _ _, b4⟩
          case round =>
            obtain ⟨k, v, hk, rfl, hB, hown, hKp, hb⟩ := hrel
            have hs4 := hKp.size
            by_cases hlt : k < r.fields.length
            · obtain ⟨f, hfk⟩ : ∃ f, r.fields[k]? = some f := ⟨r.fields[k], List.getElem?_eq_getElem hlt⟩
              obtain ⟨_, _, _, _, hat, hs0, hs8⟩ := Hsz.out f (List.mem_of_getElem? hfk)
              have Hn := hid (valsOf_snoc r s k f hfk)
              obtain ⟨y0, y1, y2⟩ := HFC.out k f hfk
              have y0 := (hKp.cell (p := ⟨fb, fo + k * 3, none⟩) hfb hfg).trans y0
              have y1 := (hKp.cell (p := ⟨fb, fo + k * 3 + 1, none⟩) hfb hfg).trans y1
              have y2 := (hKp.cell (p := ⟨fb, fo + k * 3 + 2, none⟩) hfb hfg).trans y2
              have sm := fun W => str_mid s f.at_ f.size (by omega) (by omega) W
              have s4 : IntKind.i64.wrap ((f.at_ : Int) + (f.size : Int)) = (f.at_ : Int) + (f.size : Int) := by rw [IntKind.wrap_i64]; omega
              have cG := fun W => hid (get_bs ((s.drop f.at_).take f.size) (by rw [slice_len s f (by omega)]; exact hs8) W)
              have hvo : num ((s.drop f.at_).take f.size) = valOf s f := rfl
              rw [hvo] at cG
              clear hvo
              generalize (s.drop f.at_).take f.size = sl at *
              generalize valOf s f = xv at *
              generalize u64Cells ((valsOf r s).take k) = xs at *
              have hA := (Below.refl wr.heap.size wr).alloc (Nat.le_refl _) (.cells #[.string (bs f.name), .int .i64 (f.at_ : Int), .int .i64 (f.size : Int)] 230)
              have hB2 := hB.below hA
              have hK2 := hKp.below hA
              have hO2 := owns_below hown hA
              have hbA := hb.trans (hA.mono hb.size)
              have t3 : (wr.alloc (.cells #[.string (bs f.name), .int .i64 (f.at_ : Int), .int .i64 (f.size : Int)] 230)).cell? ⟨w.heap.size, 3, none⟩ = some v := (hB2.cell 3).trans rfl
              have q8 := hB.lt
              clear hfk
              go_wp2_with fail
              refine (cG _).out.mono ?_
              rintro e _ ⟨rfl, rfl⟩
              have hA3 := (Below.refl (wr.alloc (.cells #[.string (bs f.name), .int .i64 (f.at_ : Int), .int .i64 (f.size : Int)] 230)).heap.size (wr.alloc (.cells #[.string (bs f.name), .int .i64 (f.at_ : Int), .int .i64 (f.size : Int)] 230))).alloc (Nat.le_refl _) (.cells #[.int .u64 (xv : Nat)] 122)
              have hB3 := hB2.below hA3
              have hK3 := hK2.below hA3
              have hO3 := owns_below hO2 hA3
              have hb3 := hbA.trans (hA3.mono hbA.size)
              go_wp2_with (at_builtin; refine list_append_own rfl (.tmp 66) (.tmp 68) 35 rfl W4.heap.size 122 (.int .u64 0) 1 8 Tryz.underlying35 infoU64 rfl (by decide) v k xs rfl hO3 ⟨wr.heap.size + 1, 0, none⟩ 1 1 [.int .u64 (xv : Nat)] rfl rfl (by intro j u hu; (have hj : j = 0 := by (have := (List.getElem?_eq_some_iff.1 hu).1; simp at this; exact this)); subst hj; simp at hu; subst hu; rw [show (⟨wr.heap.size + 1, 0, none⟩ : Addr).add 0 = ⟨wr.heap.size + 1, 0, none⟩ from rfl, ← World.size_alloc wr (.cells #[.string (bs f.name), .int .i64 (f.at_ : Int), .int .i64 (f.size : Int)] 230), cell_of_row _ _ _ _ _ _ (heap_alloc_new _ _)]; rfl) (by simp [Value.oneCell']) (by unfold maxLen; omega) (by omega) (by simp; omega) ?_; intro v' w5 hown5 hgrow _; obtain ⟨sa', sc', rfl⟩ := own_sl hown5; have hB5 := hB3.grown hO3 hgrow hlt4; have hK5 := hK3.grown hO3 hgrow; have u3 : w5.cell? ⟨w.heap.size, 3, none⟩ = some v := (hB5.cell 3).trans rfl; have f3 := hB5.free 3)
              go_roundw
              case rel => exact ⟨k + 1, _, by omega, by go_num, hB5.set 3 _, by rw [Hn.out]; exact owns_set hown5 hlt4 _, hK5.set 3 _, below_setc (below_append hb3 (owns_base hO3 (Nat.le_of_lt hlt4)) hgrow (by simp; omega)) (Nat.le_refl _) _ _⟩
              case measure => simp [intOf]; omega
            · obtain rfl : k = r.fields.length := by omega
              obtain ⟨va, vc, rfl⟩ := own_sl hown
              have hvl : (valsOf r s).length = r.fields.length := by simp [valsOf]
              have hsl := sl_of_owns hown
              rw [List.take_of_length_le (by omega), ← hvl] at hsl
              have hvb : ∀ x ∈ valsOf r s, x ≤ 18446744073709551615 := by
                intro x hx
                obtain ⟨f, hf, rfl⟩ := List.mem_map.1 hx
                obtain ⟨_, _, _, _, hat, hs0, hs8⟩ := Hsz.out f hf
                have h1 := num_lt ((s.drop f.at_).take f.size)
                rw [slice_len s f (by omega)] at h1
                have h2 := Nat.pow_le_pow_right (n := 256) (by omega) hs8
                unfold valOf
                omega
              have hx1l := x1.toNat_lt
              have d3 := (C3.out op nw (x1.toNat : Int) _ (valsOf r s) wr (by omega) (by omega) (by omega) (by omega) (by omega) hvb hb hsl).out
              have d4 := fun W hbW hslW => hid (C4.out op nw (x1.toNat : Int) (.slice va (valsOf r s).length vc) (valsOf r s) (x4.toNat : Int) (num [x5, x6, x7] : Nat) W (by omega) (by omega) (by omega) (by omega) (by omega) hvb hbW hslW).out
              unfold RightPost at d3
              unfold WritePost at d4
              rw [HRR.out] at d3
              have HWr := hid (show ¬ wrongH op nw (x1.toNat : Int) r.flags = true → writeH op nw (x1.toNat : Int) (valsOf r s) (x4.toNat : Int) (num [x5, x6, x7] : Nat) = (writeF r.fields (valsOf r s) (head48 op nw (x1.toNat : Int) (x4.toNat : Int) (num [x5, x6, x7] : Nat)), 0, -1) by
                intro hwn
                have h1 := x4.toNat_lt
                have h2 := num_lt [x5, x6, x7]
                simp only [List.length_cons, List.length_nil] at h2
                unfold writeH
                rw [HRR.out, if_neg hwn, if_neg (by simp), if_neg (by omega), hf]; rfl)
              have t0 : wr.cell? ⟨w.heap.size, 0, none⟩ = some (.int .i64 op) := (hB.cell 0).trans rfl
              have t1 : wr.cell? ⟨w.heap.size, 1, none⟩ = some (.bool nw) := (hB.cell 1).trans rfl
              have t2 : wr.cell? ⟨w.heap.size, 2, none⟩ = some (.int .i64 (x1.toNat : Int)) := (hB.cell 2).trans rfl
              have t3 : wr.cell? ⟨w.heap.size, 3, none⟩ = some (.slice va r.fields.length vc) := (hB.cell 3).trans rfl
              rw [List.take_of_length_le (by omega)] at hown
              have HO := hid hown
              clear hown hKp C3 C4 C2 hvb hx1l hn0 hnf hs4
              unfold headV at d3 d4
              rw [hvl] at d3 hsl
              rw [hvl] at d4
              have D3 := hid d3
              clear d3 hC2 hk hlt
              go_wp2_with fail
              refine D3.out.mono ?_
              rintro e W5 ⟨ev, rfl, her, hb5⟩
              have B5 := hB.below hb5
              have b5 := hb.trans (hb5.mono hb.size)
              have hsl5 := hsl.below (Nat.le_refl _) hb5
              have v0 := B5.free 0; have v1 := B5.free 1; have v2 := B5.free 2; have v3 := B5.free 3
              have t0 : W5.cell? ⟨w.heap.size, 0, none⟩ = some (.int .i64 op) := (B5.cell 0).trans rfl
              have t1 : W5.cell? ⟨w.heap.size, 1, none⟩ = some (.bool nw) := (B5.cell 1).trans rfl
              have t2 : W5.cell? ⟨w.heap.size, 2, none⟩ = some (.int .i64 (x1.toNat : Int)) := (B5.cell 2).trans rfl
              have t3 : W5.cell? ⟨w.heap.size, 3, none⟩ = some (.slice va r.fields.length vc) := (B5.cell 3).trans rfl
              by_cases hwr : wrongH op nw (x1.toNat : Int) r.flags = true
              · rw [if_pos hwr] at her
                have HRf := hid (show readH s = readNo 3 by rw [HR.out, if_pos hwr])
                simp only at her
                generalize hk3 : (3 : Nat) = k3 at her
                generalize hp3 : (-1 : Int) = p3 at her
                cases her with
                | nil => omega
                | bare k h =>
                  subst hk3
                  go_wp2
                  refine bodyPost_ret (v := .tuple #[headV 0 false 0 (.slice none 0 0), .int .i64 0, .int .i64 0, .iface 31 (.int .i64 3)]) (by simp [results, Tryz.results82, go_sem, t0, t1, t2, t3]; rfl) rfl ?_
                  refine ⟨_, _, by rw [HRf.out]; rfl, by rw [HRf.out]; exact .bare 3 (by omega), by rw [HRf.out]; exact sl_nil _ _, ?_⟩
                  iterate 4 refine below_setc ?_ (Nat.le_refl w.heap.size) _ _
                  exact b5
                | at_ k h pl b e0 e1 =>
                  subst hk3
                  subst hp3
                  have hbn : w.heap.size ≠ b := by
                    rintro rfl
                    have := t1.symm.trans e1
                    simp at this
                  go_wp2
                  refine bodyPost_ret (v := .tuple #[headV 0 false 0 (.slice none 0 0), .int .i64 0, .int .i64 0, .iface 144 (.pointer (some ⟨b, 0, none⟩))]) (by simp [results, Tryz.results82, go_sem, t0, t1, t2, t3]; rfl) rfl ?_
                  refine ⟨_, _, by rw [HRf.out]; rfl, by rw [HRf.out]; refine .at_ 3 (by omega) (-1) b ?_ ?_ <;> (rw [World.cell?_setCell_far _ _ _ _ hbn, World.cell?_setCell_far _ _ _ _ hbn, World.cell?_setCell_far _ _ _ _ hbn, World.cell?_setCell_far _ _ _ _ hbn]; assumption), by rw [HRf.out]; exact sl_nil _ _, ?_⟩
                  iterate 4 refine below_setc ?_ (Nat.le_refl w.heap.size) _ _
                  exact b5
              · rw [if_neg hwr] at her
                obtain rfl := errIs_zeroH her
                have HWr := hid (HWr.out hwr)
                have HR2 := hid (show readH s = if spoilt r s then readNo 3 else ⟨0, op, nw, (x1.toNat : Int), valsOf r s, (x4.toNat : Int), (num [x5, x6, x7] : Nat)⟩ by rw [HR.out, if_neg hwr])
                have HWB := HWB
                have hx4l := x4.toNat_lt
                have hx4w : IntKind.i64.wrap (x4.toNat : Int) = (x4.toNat : Int) := by rw [IntKind.wrap_i64]; omega
                have hx5l := x5.toNat_lt; have hx6l := x6.toNat_lt; have hx7l := x7.toNat_lt
                have hx5w : IntKind.i64.wrap (x5.toNat : Int) = (x5.toNat : Int) := by rw [IntKind.wrap_i64]; omega
                have hx6w : IntKind.i64.wrap (x6.toNat : Int) = (x6.toNat : Int) := by rw [IntKind.wrap_i64]; omega
                have hx7w : IntKind.i64.wrap (x7.toNat : Int) = (x7.toNat : Int) := by rw [IntKind.wrap_i64]; omega
                have hor := or3 x5 x6 x7
                generalize num [x5, x6, x7] = N3 at *
                go_wp2_with fail
                refine wpIn_wide (n := 4).1 ?_
                refine region_puts (aF := ?kA9) [(78, .string (bs s)), (79, .int .u8 (x4.toNat : Int)), (80, .int .i64 (x4.toNat : Int)), (81, .string (bs s)), (82, .int .u8 (x5.toNat : Int)), (83, .int .i64 (x5.toNat : Int)), (84, .int .i64 ((x5.toNat : Int) * 65536)), (85, .string (bs s)), (86, .int .u8 (x6.toNat : Int)), (87, .int .i64 (x6.toNat : Int)), (88, .int .i64 ((x6.toNat : Int) * 256)), (89, .int .i64 (bits .or .i64 ((x5.toNat : Int) * 65536) ((x6.toNat : Int) * 256))), (90, .string (bs s)), (91, .int .u8 (x7.toNat : Int)), (92, .int .i64 (x7.toNat : Int)), (93, .int .i64 (N3 : Int)), (3, .int .i64 (x4.toNat : Int)), (4, .int .i64 (N3 : Int))] (fun W => Below W5.heap.size W5 W) ?kB9 hmx (by kernel_rfl) (by kernel_rfl) (fun w w' h hb => h.trans (hb.mono h.size)) (Below.refl _ _).drew ?kC9 ?kD9
                case kB9 =>
                  simp only [putAll, List.foldl_cons, List.foldl_nil, List.setIfInBounds_toArray, List.set_cons_zero, List.set_cons_succ]
                  exact rfl
                case kC9 =>
                  have hrf : ∀ w : World, Below w.heap.size w w := fun w => Below.refl _ w
                  have hx5s : IntKind.i64.wrap ((x5.toNat : Int) * 65536) = (x5.toNat : Int) * 65536 := by rw [IntKind.wrap_i64]; omega
                  have hx6s : IntKind.i64.wrap ((x6.toNat : Int) * 256) = (x6.toNat : Int) * 256 := by rw [IntKind.wrap_i64]; omega
                  refine ⟨?_, ?_, ?_, ?_, ?_, ?_, ?_, ?_, ?_, ?_, ?_, ?_, ?_, ?_, ?_, ?_, ?_, ?_, trivial⟩
                  all_goals refine ⟨by simp, fun W h => ⟨by simp [go_sem, Oper.about], ?_⟩⟩
                  all_goals clear h
                  all_goals simp [OpTo, go_sem, hrf, hl, hx4, hx5, hx6, hx7, hx4w, hx5w, hx6w, hx7w, hx5s, hx6s, hor]
                case kD9 =>
                  intro W hW
                  have B6 := B5.below hW
                  have b6 := b5.trans (hW.mono b5.size)
                  have hsl6 := hsl5.below (Nat.le_refl _) hW
                  clear v0 v1 v2 v3 t0 t1 t2 t3
                  have v0 := B6.free 0; have v1 := B6.free 1; have v2 := B6.free 2; have v3 := B6.free 3
                  have t0 : World.cell? _ ⟨w.heap.size, 0, none⟩ = some (.int .i64 op) := (B6.cell 0).trans rfl
                  have t1 : World.cell? _ ⟨w.heap.size, 1, none⟩ = some (.bool nw) := (B6.cell 1).trans rfl
                  have t2 : World.cell? _ ⟨w.heap.size, 2, none⟩ = some (.int .i64 (x1.toNat : Int)) := (B6.cell 2).trans rfl
                  have t3 : World.cell? _ ⟨w.heap.size, 3, none⟩ = some (.slice va r.fields.length vc) := (B6.cell 3).trans rfl
                  gi_wp2
                  have d5 := hid (d4 W b6 hsl6).out
                  rw [HWr.out] at d5
                  generalize hL : writeF r.fields (valsOf r s) (head48 op nw (x1.toNat : Int) (x4.toNat : Int) (N3 : Int)) = L at *
                  clear d4
                  go_wp2_with fail
                  refine d5.out.mono ?_
                  rintro e W7 ⟨ev, rfl, her7, hb7⟩
                  obtain rfl := errIs_zeroH her7
                  have B7 := B6.below hb7
                  have b7 := b6.trans (hb7.mono b6.size)
                  have hsl7 := hsl6.below (Nat.le_refl _) hb7
                  clear v0 v1 v2 v3 t0 t1 t2 t3 d5
                  have v0 := B7.free 0; have v1 := B7.free 1; have v2 := B7.free 2; have v3 := B7.free 3
                  have t0 : World.cell? _ ⟨w.heap.size, 0, none⟩ = some (.int .i64 op) := (B7.cell 0).trans rfl
                  have t1 : World.cell? _ ⟨w.heap.size, 1, none⟩ = some (.bool nw) := (B7.cell 1).trans rfl
                  have t2 : World.cell? _ ⟨w.heap.size, 2, none⟩ = some (.int .i64 (x1.toNat : Int)) := (B7.cell 2).trans rfl
                  have t3 : World.cell? _ ⟨w.heap.size, 3, none⟩ = some (.slice va r.fields.length vc) := (B7.cell 3).trans rfl
                  cases hsp : spoilt r s with
                  | true =>
                    have HRf := hid (show readH s = readNo 3 by rw [HR2.out, if_pos hsp])
                    have hLs : (L == s) = false := by
                      rw [beq_eq_false_iff_ne]
                      intro e
                      rw [HWB.out.1 e] at hsp; cases hsp
                    clear hsp
                    go_wp2
                    refine bodyPost_ret (v := .tuple #[headV 0 false 0 (.slice none 0 0), .int .i64 0, .int .i64 0, .iface 31 (.int .i64 3)]) (by simp [results, Tryz.results82, go_sem, t0, t1, t2, t3]; rfl) rfl ?_
                    refine ⟨_, _, by rw [HRf.out]; rfl, by rw [HRf.out]; exact .bare 3 (by omega), by rw [HRf.out]; exact sl_nil _ _, ?_⟩
                    iterate 4 refine below_setc ?_ (Nat.le_refl w.heap.size) _ _
                    exact b7
                  | false =>
                    have HRf := hid (show readH s = _ by rw [HR2.out, if_neg (by rw [hsp]; simp)])
                    have hLs : (L == s) = true := by
                      rw [beq_iff_eq]
                      exact HWB.out.2 hsp
                    clear hsp
                    go_wp2
                    refine bodyPost_ret (v := .tuple #[headV op nw (x1.toNat : Int) (.slice va r.fields.length vc), .int .i64 (x4.toNat : Int), .int .i64 (N3 : Int), .nilIface]) (by simp [results, Tryz.results82, go_sem, t0, t1, t2, t3]; rfl) rfl ?_
                    have hO7 := owns_set (owns_set (owns_set (owns_set (owns_below (owns_below (owns_below HO.out hb5) hW) hb7) hlt4 (p := ⟨w.heap.size, 0, none⟩) (.int .i64 op)) hlt4 (p := ⟨w.heap.size, 1, none⟩) (.bool nw)) hlt4 (p := ⟨w.heap.size, 2, none⟩) (.int .i64 (x1.toNat : Int))) hlt4 (p := ⟨w.heap.size, 3, none⟩) (.slice va r.fields.length vc)
                    have hsl8 := sl_of_owns hO7
                    refine ⟨_, _, by rw [HRf.out], by rw [HRf.out]; exact .nil, by rw [HRf.out]; rw [show (valsOf r s).length = r.fields.length from hvl]; exact hsl8, ?_⟩
                    iterate 4 refine below_setc ?_ (Nat.le_refl w.heap.size) _ _
                    exact b7
  · have HR := hid (show readH s = readNo 7 by unfold readH; rw [if_pos hl])
    have hli : ¬ (s.length : Int) = 48 := by omega
    go_enter Tryz.func82, Tryz.ntmps82
    go_wp2
    refine bodyPost_ret (v := .tuple #[headV 0 false 0 (.slice none 0 0), .int .i64 0, .int .i64 0, .iface 31 (.int .i64 7)]) (by simp [results, Tryz.results82, go_sem]; rfl) rfl ?_
    exact ⟨_, _, by rw [HR.out]; rfl, by rw [HR.out]; exact .bare 7 (by omega), by rw [HR.out]; exact sl_nil _ _, b1⟩
end
end Go.Proofs.YtfeenkofnbefaaaGreatDoor
