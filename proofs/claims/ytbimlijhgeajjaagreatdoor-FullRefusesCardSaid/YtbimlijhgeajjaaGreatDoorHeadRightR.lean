/- What is wrong with a head: by the document. -/
import Derived.Test.YtbimlijhgeajjaaGreatDoorHeadRight
set_option linter.unusedSectionVars false
set_option linter.unusedSimpArgs false
set_option linter.unusedVariables false
namespace Go.Proofs.YtbimlijhgeajjaaGreatDoor
open Go Go.RowKit
set_option linter.unusedVariables false
set_option linter.unusedSectionVars false
set_option linter.unusedSimpArgs false
set_option maxRecDepth 100000
def RRightPost (op : Int) (now : Bool) (flags : Int) (vs : List Nat) (w : World) (e : Ending) (w' : World) : Prop :=
  e = .returned (faultV (rightH op now flags vs).1 (rightH op now flags vs).2) ∧ Below w.heap.size w w'
def RRightR (r : HR) (vs : List Nat) (w2 : World) (i : Value) (wr : World) : Prop :=
  ∃ k : Nat, k ≤ r.fields.length ∧ i = .int .i64 (k : Nat) ∧ firstBad r.fields vs 0 = firstBad (r.fields.drop k) (vs.drop k) k ∧ Below w2.heap.size w2 wr
section
variable (op : Int) (now : Bool) (flags : Int) (v : Value) (vs : List Nat) (w : World) (h0 : -9223372036854775808 ≤ op) (h1 : op ≤ 9223372036854775807) (g0 : -9223372036854775808 ≤ flags) (g1 : flags ≤ 9223372036854775807)
  (hn : vs.length ≤ 9223372036854775807) (hv : ∀ x ∈ vs, x ≤ 18446744073709551615) (hsl : Sl w v 1 vs.length (u64Cells vs))
include h0 h1 g0 g1 hn hv hsl
set_option maxHeartbeats 4000000 in
theorem rright_any : Calls Tryz.prog 93 #[headV op now flags v] w fun e w' => RRightPost op now flags vs w e w' := by
  have c1 := fun w1 => hid (kind_any op w1)
  have cb := fun k w1 => hid (bareF_any k w1)
  have cg := fun w1 => hid (good_any w1)
  have HSL := hid hsl
  obtain ⟨sa, sc, rfl, hsl1, hsl2⟩ := hsl
  unfold KindPost at c1
  unfold RRightPost
  have b1 := ((Below.refl w.heap.size w).alloc (Nat.le_refl _) (.cells #[.int .i64 op, .bool now, .int .i64 flags, .slice sa vs.length sc] 51)).alloc (by simp) (.cells #[.int .i64 0, .int .i64 0] 34)
  have B1 := (Blk.new w 51 #[.int .i64 op, .bool now, .int .i64 flags, .slice sa vs.length sc]).below ((Below.refl _ _).alloc (Nat.le_refl _) (.cells #[.int .i64 0, .int .i64 0] 34))
  have E1 := Blk.new (w.alloc (.cells #[.int .i64 op, .bool now, .int .i64 flags, .slice sa vs.length sc] 51)) 34 #[.int .i64 0, .int .i64 0]
  simp only [World.size_alloc] at E1
  cases hf : findH op with
  | none =>
    rw [hf] at c1
    have HR := hid (show rightH op now flags vs = (1, -1) by simp [rightH, hf])
    go_enter Tryz.func93, Tryz.ntmps93
    unfold headV
    go_wp2_with fail
    refine (c1 _).out.mono ?_
    rintro e w1 ⟨fv, rfl, _, _, hb⟩
    have E2 := E1.below hb
    have b2 := b1.trans (hb.mono b1.size)
    go_wp2_with fail
    refine (cb _ _).out.mono ?_
    rintro e w2 ⟨rfl, hb2⟩
    have E3 := E2.below hb2
    have b3 := b2.trans (hb2.mono b2.size)
    have t0 : w2.cell? ⟨w.heap.size + 1, 0, none⟩ = some (.int .i64 0) := (E3.cell 0).trans rfl
    have t1 : w2.cell? ⟨w.heap.size + 1, 1, none⟩ = some (.int .i64 0) := (E3.cell 1).trans rfl
    have v0 := E3.free 0
    have v1 := E3.free 1
    go_wp2
    refine bodyPost_ret (v := .agg #[.int .i64 1, .int .i64 (-1)]) (by simp [results, Tryz.results93, go_sem, t0, t1]) rfl ?_
    exact ⟨by rw [HR.out]; rfl, below_setc (below_setc b3 (by omega) _ _) (by omega) _ _⟩
  | some r =>
    rw [hf] at c1
    have hmem := findH_mem hf
    have hfine := head_fine r hmem
    have hfl := hfine.2.2.2.2.2.1
    have hnf := hfine.2.2.2.2.2.2.1
    have hsz := hfine.2.2.2.2.2.2.2
    have hn0 := fields_pos r hmem
    clear hfine
    simp only [hFields, hFlags, hName] at c1
    have hcases : (wrongH op now flags r.flags = true ∧ ((now = true ∧ 32 ≤ op) ∨ ((now = false ∨ ¬ 32 ≤ op) ∧ flags < 0) ∨ ((now = false ∨ ¬ 32 ≤ op) ∧ ¬ flags < 0 ∧ extra flags.toNat r.flags = true))) ∨ (wrongH op now flags r.flags = false ∧ (now = false ∨ ¬ 32 ≤ op) ∧ ¬ flags < 0 ∧ extra flags.toNat r.flags = false) := by
      unfold wrongH
      cases now <;> by_cases a1 : 32 ≤ op <;> by_cases a2 : flags < 0 <;> cases a3 : extra flags.toNat r.flags <;> simp [a1, a2, a3]
    have hand : ¬ flags < 0 → (bits .or .i64 flags (r.flags : Int) != (r.flags : Int)) = extra flags.toNat r.flags := fun h => by
      have := or_flags flags.toNat r.flags (by omega) hfl
      rwa [Int.toNat_of_nonneg (by omega)] at this
    have Hand := hid hand; clear hand
    have hR3 : wrongH op now flags r.flags = true → rightH op now flags vs = (3, -1) := fun h => by simp [rightH, hf, h]
    have hR7 : wrongH op now flags r.flags = false → r.fields.length ≠ vs.length → rightH op now flags vs = (7, -1) := fun h h2 => by simp [rightH, hf, h, h2]
    have hR2 : ∀ i, wrongH op now flags r.flags = false → r.fields.length = vs.length → firstBad r.fields vs 0 = some i → rightH op now flags vs = (2, (i : Int)) := fun i h h2 h3 => by simp [rightH, hf, h, h2, h3]
    have hR0 : wrongH op now flags r.flags = false → r.fields.length = vs.length → firstBad r.fields vs 0 = none → rightH op now flags vs = (0, -1) := fun h h2 h3 => by simp [rightH, hf, h, h2, h3]
    have HR3 := hid hR3; have HR7 := hid hR7; have HR2 := hid hR2; have HR0 := hid hR0
    clear hR3 hR7 hR2 hR0
    have Hsz := hid hsz; clear hsz
    have Hv := hid hv; clear hsl2 hv hsl1
    go_enter Tryz.func93, Tryz.ntmps93
    unfold headV
    go_wp2_with fail
    refine (c1 _).out.mono ?_
    rintro e w2 ⟨fv, rfl, hfs, _, hb⟩
    have E2 := E1.below hb
    have B2 := B1.below hb
    have b2 := b1.trans (hb.mono b1.size)
    clear E1 B1 b1 hb
    have p0 : w2.cell? ⟨w.heap.size, 0, none⟩ = some (.int .i64 op) := (B2.cell 0).trans rfl
    have p1 : w2.cell? ⟨w.heap.size, 1, none⟩ = some (.bool now) := (B2.cell 1).trans rfl
    have p2 : w2.cell? ⟨w.heap.size, 2, none⟩ = some (.int .i64 flags) := (B2.cell 2).trans rfl
    have p3 : w2.cell? ⟨w.heap.size, 3, none⟩ = some (.slice sa vs.length sc) := (B2.cell 3).trans rfl
    have HFS := hid hfs
    obtain ⟨fa, fc, rfl, hfl1, hfl2⟩ := hfs
    have HB2 := hid B2
    have HE2 := hid E2
    clear hfl2 B2 hfl1 E2
    rcases hcases with ⟨hw, hc⟩ | ⟨hw, hc⟩
    · have HR := hid (HR3.out hw)
      clear HR3 HR7 HR2 HR0 hw
      rcases hc with ⟨rfl, hc⟩ | ⟨rfl | hc1, hc⟩ | ⟨rfl | hc1, hc, he⟩
      · have hd := decide_eq_true hc
        go_wp2_with fail
        refine (cb _ _).out.mono ?_
        rintro e w9 ⟨rfl, hb9⟩
        have E9 := HE2.out.below hb9
        have b9 := b2.trans (hb9.mono b2.size)
        have t0 : w9.cell? ⟨w.heap.size + 1, 0, none⟩ = some (.int .i64 0) := (E9.cell 0).trans rfl
        have t1 : w9.cell? ⟨w.heap.size + 1, 1, none⟩ = some (.int .i64 0) := (E9.cell 1).trans rfl
        have v0 := E9.free 0
        have v1 := E9.free 1
        go_wp2
        refine bodyPost_ret (v := .agg #[.int .i64 3, .int .i64 (-1)]) (by simp [results, Tryz.results93, go_sem, t0, t1]) rfl ?_
        exact ⟨by rw [HR.out]; rfl, below_setc (below_setc b9 (by omega) _ _) (by omega) _ _⟩
      · have hd := decide_eq_true hc
        go_wp2_with fail
        refine (cb _ _).out.mono ?_
        rintro e w9 ⟨rfl, hb9⟩
        have E9 := HE2.out.below hb9
        have b9 := b2.trans (hb9.mono b2.size)
        have t0 : w9.cell? ⟨w.heap.size + 1, 0, none⟩ = some (.int .i64 0) := (E9.cell 0).trans rfl
        have t1 : w9.cell? ⟨w.heap.size + 1, 1, none⟩ = some (.int .i64 0) := (E9.cell 1).trans rfl
        have v0 := E9.free 0
        have v1 := E9.free 1
        go_wp2
        refine bodyPost_ret (v := .agg #[.int .i64 3, .int .i64 (-1)]) (by simp [results, Tryz.results93, go_sem, t0, t1]) rfl ?_
        exact ⟨by rw [HR.out]; rfl, below_setc (below_setc b9 (by omega) _ _) (by omega) _ _⟩
      · have hd := decide_eq_true hc
        have hd1 : decide (32 ≤ op) = false := decide_eq_false (by omega)
        cases now
        · skip
          go_wp2_with fail
          refine (cb _ _).out.mono ?_
          rintro e w9 ⟨rfl, hb9⟩
          have E9 := HE2.out.below hb9
          have b9 := b2.trans (hb9.mono b2.size)
          have t0 : w9.cell? ⟨w.heap.size + 1, 0, none⟩ = some (.int .i64 0) := (E9.cell 0).trans rfl
          have t1 : w9.cell? ⟨w.heap.size + 1, 1, none⟩ = some (.int .i64 0) := (E9.cell 1).trans rfl
          have v0 := E9.free 0
          have v1 := E9.free 1
          go_wp2
          refine bodyPost_ret (v := .agg #[.int .i64 3, .int .i64 (-1)]) (by simp [results, Tryz.results93, go_sem, t0, t1]) rfl ?_
          exact ⟨by rw [HR.out]; rfl, below_setc (below_setc b9 (by omega) _ _) (by omega) _ _⟩
        · skip
          go_wp2_with fail
          refine (cb _ _).out.mono ?_
          rintro e w9 ⟨rfl, hb9⟩
          have E9 := HE2.out.below hb9
          have b9 := b2.trans (hb9.mono b2.size)
          have t0 : w9.cell? ⟨w.heap.size + 1, 0, none⟩ = some (.int .i64 0) := (E9.cell 0).trans rfl
          have t1 : w9.cell? ⟨w.heap.size + 1, 1, none⟩ = some (.int .i64 0) := (E9.cell 1).trans rfl
          have v0 := E9.free 0
          have v1 := E9.free 1
          go_wp2
          refine bodyPost_ret (v := .agg #[.int .i64 3, .int .i64 (-1)]) (by simp [results, Tryz.results93, go_sem, t0, t1]) rfl ?_
          exact ⟨by rw [HR.out]; rfl, below_setc (below_setc b9 (by omega) _ _) (by omega) _ _⟩
      · have hd : decide (flags < 0) = false := decide_eq_false (by omega)
        have ha := (Hand.out (by omega)).trans he
        go_wp2_with fail
        refine (cb _ _).out.mono ?_
        rintro e w9 ⟨rfl, hb9⟩
        have E9 := HE2.out.below hb9
        have b9 := b2.trans (hb9.mono b2.size)
        have t0 : w9.cell? ⟨w.heap.size + 1, 0, none⟩ = some (.int .i64 0) := (E9.cell 0).trans rfl
        have t1 : w9.cell? ⟨w.heap.size + 1, 1, none⟩ = some (.int .i64 0) := (E9.cell 1).trans rfl
        have v0 := E9.free 0
        have v1 := E9.free 1
        go_wp2
        refine bodyPost_ret (v := .agg #[.int .i64 3, .int .i64 (-1)]) (by simp [results, Tryz.results93, go_sem, t0, t1]) rfl ?_
        exact ⟨by rw [HR.out]; rfl, below_setc (below_setc b9 (by omega) _ _) (by omega) _ _⟩
      · have hd : decide (flags < 0) = false := decide_eq_false (by omega)
        have hd1 : decide (32 ≤ op) = false := decide_eq_false (by omega)
        have ha := (Hand.out (by omega)).trans he
        cases now
        · skip
          go_wp2_with fail
          refine (cb _ _).out.mono ?_
          rintro e w9 ⟨rfl, hb9⟩
          have E9 := HE2.out.below hb9
          have b9 := b2.trans (hb9.mono b2.size)
          have t0 : w9.cell? ⟨w.heap.size + 1, 0, none⟩ = some (.int .i64 0) := (E9.cell 0).trans rfl
          have t1 : w9.cell? ⟨w.heap.size + 1, 1, none⟩ = some (.int .i64 0) := (E9.cell 1).trans rfl
          have v0 := E9.free 0
          have v1 := E9.free 1
          go_wp2
          refine bodyPost_ret (v := .agg #[.int .i64 3, .int .i64 (-1)]) (by simp [results, Tryz.results93, go_sem, t0, t1]) rfl ?_
          exact ⟨by rw [HR.out]; rfl, below_setc (below_setc b9 (by omega) _ _) (by omega) _ _⟩
        · skip
          go_wp2_with fail
          refine (cb _ _).out.mono ?_
          rintro e w9 ⟨rfl, hb9⟩
          have E9 := HE2.out.below hb9
          have b9 := b2.trans (hb9.mono b2.size)
          have t0 : w9.cell? ⟨w.heap.size + 1, 0, none⟩ = some (.int .i64 0) := (E9.cell 0).trans rfl
          have t1 : w9.cell? ⟨w.heap.size + 1, 1, none⟩ = some (.int .i64 0) := (E9.cell 1).trans rfl
          have v0 := E9.free 0
          have v1 := E9.free 1
          go_wp2
          refine bodyPost_ret (v := .agg #[.int .i64 3, .int .i64 (-1)]) (by simp [results, Tryz.results93, go_sem, t0, t1]) rfl ?_
          exact ⟨by rw [HR.out]; rfl, below_setc (below_setc b9 (by omega) _ _) (by omega) _ _⟩
    · clear HR3
      have HR7 := hid (HR7.out hw); have HR0 := hid (HR0.out hw); have HR2 := hid (fun i => HR2.out i hw)
      clear hw
      obtain ⟨hc1, hc2, hc3⟩ := hc
      have hd : decide (flags < 0) = false := decide_eq_false (by omega)
      have ha := (Hand.out (by omega)).trans hc3
      have hdn : now = false ∨ (now = true ∧ decide (32 ≤ op) = false) := by
        rcases hc1 with h | h
        · exact .inl h
        · cases now
          · exact .inl rfl
          · exact .inr ⟨rfl, decide_eq_false (by omega)⟩
      clear hc1 hc3
      by_cases hlen : r.fields.length = vs.length
      · have hvl : 0 < vs.length := by omega
        obtain ⟨fb, fo, fc', hfe, hfb, hfc⟩ := fields_open HFS.out hn0
        obtain ⟨vb, vo, vc', hve, hvb, hvc⟩ := vals_open HSL.out hvl
        have HFC := hid hfc; have HVC := hid hvc
        cases hfe; cases hve
        clear hfc hvc HR7
        rcases hdn with rfl | ⟨rfl, hd1⟩
        · go_wp2
          go_loopw [51] (fun i wr => RRightR r vs w2 i wr) (fun i _ => r.fields.length - (intOf i).toNat)
          case atStart => exact ⟨0, by omega, rfl, rfl, Below.refl _ _⟩
          case round =>
            obtain ⟨k, hk, rfl, heq, hb⟩ := hrel
            have hB := hb.size
            by_cases hlt : k < r.fields.length
            · obtain ⟨f, hfk⟩ : ∃ f, r.fields[k]? = some f := ⟨r.fields[k], List.getElem?_eq_getElem hlt⟩
              obtain ⟨x, hxk⟩ : ∃ x, vs[k]? = some x := ⟨vs[k]'(by omega), List.getElem?_eq_getElem _⟩
              obtain ⟨q1, q2, q3, q4, q5, q6, q7⟩ := Hsz.out f (List.mem_of_getElem? hfk)
              have hx64 := Hv.out x (List.mem_of_getElem? hxk)
              rw [firstBad_drop r.fields vs k f x hfk hxk] at heq
              have HF3 := hid (HFC.out k f hfk)
              have HV3 := hid (HVC.out k x hxk)
              have cn := fun w => hid (number_any x (f.size : Int) w hx64)
              go_wp2
              have hmx : Tryz.prog.follows .mixedOrders = true := by kernel_rfl
              have hvb2 : vb < w2.heap.size := Nat.lt_of_lt_of_le hvb b2.size
              have hklt : k < vs.length := by omega
              refine wpIn_wide (n := 4).1 ?_
              refine region_puts (aF := ?kF0) [(55, .pointer (some ⟨w.heap.size, 3, none⟩)), (56, .slice (some ⟨vb, vo, none⟩) vs.length sc), (57, .int .i64 (k : Nat)), (58, .pointer (some ⟨vb, vo + k, none⟩)), (59, .int .u64 (x : Nat)), (60, .slice (some ⟨fb, fo, none⟩) vs.length fc), (61, .int .i64 (k : Nat)), (62, .pointer (some ⟨fb, fo + k * 3, none⟩)), (63, .pointer (some ⟨fb, fo + k * 3 + 2, none⟩)), (64, .int .i64 (f.size : Nat)), (65, .tuple #[.string (bs (putS x (f.size : Int))), .int .i64 (putE x (f.size : Int) : Nat)]), (54, .tuple #[.string (bs (putS x (f.size : Int))), .int .i64 (putE x (f.size : Int) : Nat)]), (66, .string (bs (putS x (f.size : Int)))), (67, .int .i64 (putE x (f.size : Int) : Nat)), (8, .string (bs (putS x (f.size : Int)))), (9, .int .i64 (putE x (f.size : Int) : Nat))] (fun w' => Below w2.heap.size w2 w') ?kaf0 hmx (by kernel_rfl) (by kernel_rfl) (fun w w' h hb => h.trans (hb.mono h.size)) hb.drew ?keach0 ?kgo0
              case kaf0 =>
                simp only [putAll, List.foldl_cons, List.foldl_nil, List.setIfInBounds_toArray, List.set_cons_zero, List.set_cons_succ]
                exact rfl
              case keach0 =>
                have z3 : ∀ w', Below w2.heap.size w2 w' → w'.cell? ⟨w.heap.size, 3, none⟩ = some (.slice (some ⟨vb, vo, none⟩) vs.length sc) := fun w' h => (h.cell (p := ⟨w.heap.size, 3, none⟩) HB2.out.lt).trans p3
                have zx : ∀ w', Below w2.heap.size w2 w' → w'.cell? ⟨vb, vo + k, none⟩ = some (.int .u64 (x : Int)) := fun w' h => (h.cell (p := ⟨vb, vo + k, none⟩) hvb2).trans ((b2.cell (p := ⟨vb, vo + k, none⟩) hvb).trans HV3.out)
                have zs : ∀ w', Below w2.heap.size w2 w' → w'.cell? ⟨fb, fo + k * 3 + 2, none⟩ = some (.int .i64 (f.size : Int)) := fun w' h => (h.cell (p := ⟨fb, fo + k * 3 + 2, none⟩) hfb).trans HF3.out.2.2
                have hrf : ∀ w : World, Below w.heap.size w w := fun w => Below.refl _ w
                have cn := fun w => hid (number_any x (f.size : Int) w hx64)
                clear HF3 HV3 cb cg c1
                simp +contextual [EachOp, OpTo, go_sem, Oper.about, z3, zx, zs, hrf, hklt]
                exact fun w' h => ⟨trivial, callsIn_wide.2 (cn w').out⟩
              case kgo0 =>
                intro w' hb'
                have E4 := HE2.out.below hb'
                have b4 := b2.trans (hb'.mono b2.size)
                have hpe : putE x (f.size : Int) = if 256 ^ f.size ≤ x then 4 else 0 := by
                  unfold putE
                  rw [if_neg (by omega), Int.toNat_natCast]
                by_cases hbad : 256 ^ f.size ≤ x
                · rw [if_pos hbad] at heq hpe
                  have HR := hid (HR2.out k hlen heq)
                  rw [hpe]
                  have t0 : w'.cell? ⟨w.heap.size + 1, 0, none⟩ = some (.int .i64 0) := (E4.cell 0).trans rfl
                  have t1 : w'.cell? ⟨w.heap.size + 1, 1, none⟩ = some (.int .i64 0) := (E4.cell 1).trans rfl
                  have v0 := E4.free 0
                  have v1 := E4.free 1
                  go_wp2
                  refine bodyPost_ret (v := .agg #[.int .i64 2, .int .i64 (k : Nat)]) (by simp [results, Tryz.results93, go_sem, t0, t1]) rfl ?_
                  exact ⟨by rw [HR.out]; rfl, below_setc (below_setc b4 (by omega) _ _) (by omega) _ _⟩
                · rw [if_neg hbad] at heq hpe
                  have Heq := hid heq
                  rw [hpe]
                  clear hbad heq hfk hxk
                  go_wp2
                  go_roundw
                  case rel => exact ⟨k + 1, by omega, by go_num, Heq.out, hb'⟩
                  case measure => simp [intOf]; omega
            · obtain rfl : k = r.fields.length := by omega
              have HR := hid (HR0.out hlen (by rw [heq, List.drop_length]; simp [firstBad]))
              have E4 := HE2.out.below (hb.mono (Nat.le_refl _))
              have b4 := b2.trans (hb.mono b2.size)
              go_wp2_with fail
              refine (cg _).out.mono ?_
              rintro e w9 ⟨rfl, hb9⟩
              have E9 := E4.below hb9
              have b9 := b4.trans (hb9.mono b4.size)
              have t0 : w9.cell? ⟨w.heap.size + 1, 0, none⟩ = some (.int .i64 0) := (E9.cell 0).trans rfl
              have t1 : w9.cell? ⟨w.heap.size + 1, 1, none⟩ = some (.int .i64 0) := (E9.cell 1).trans rfl
              have v0 := E9.free 0
              have v1 := E9.free 1
              go_wp2
              refine bodyPost_ret (v := .agg #[.int .i64 0, .int .i64 (-1)]) (by simp [results, Tryz.results93, go_sem, t0, t1]) rfl ?_
              exact ⟨by rw [HR.out]; rfl, below_setc (below_setc b9 (by omega) _ _) (by omega) _ _⟩
        · go_wp2
          go_loopw [51] (fun i wr => RRightR r vs w2 i wr) (fun i _ => r.fields.length - (intOf i).toNat)
          case atStart => exact ⟨0, by omega, rfl, rfl, Below.refl _ _⟩
          case round =>
            obtain ⟨k, hk, rfl, heq, hb⟩ := hrel
            have hB := hb.size
            by_cases hlt : k < r.fields.length
            · obtain ⟨f, hfk⟩ : ∃ f, r.fields[k]? = some f := ⟨r.fields[k], List.getElem?_eq_getElem hlt⟩
              obtain ⟨x, hxk⟩ : ∃ x, vs[k]? = some x := ⟨vs[k]'(by omega), List.getElem?_eq_getElem _⟩
              obtain ⟨q1, q2, q3, q4, q5, q6, q7⟩ := Hsz.out f (List.mem_of_getElem? hfk)
              have hx64 := Hv.out x (List.mem_of_getElem? hxk)
              rw [firstBad_drop r.fields vs k f x hfk hxk] at heq
              have HF3 := hid (HFC.out k f hfk)
              have HV3 := hid (HVC.out k x hxk)
              have cn := fun w => hid (number_any x (f.size : Int) w hx64)
              go_wp2
              have hmx : Tryz.prog.follows .mixedOrders = true := by kernel_rfl
              have hvb2 : vb < w2.heap.size := Nat.lt_of_lt_of_le hvb b2.size
              have hklt : k < vs.length := by omega
              refine wpIn_wide (n := 4).1 ?_
              refine region_puts (aF := ?kF1) [(55, .pointer (some ⟨w.heap.size, 3, none⟩)), (56, .slice (some ⟨vb, vo, none⟩) vs.length sc), (57, .int .i64 (k : Nat)), (58, .pointer (some ⟨vb, vo + k, none⟩)), (59, .int .u64 (x : Nat)), (60, .slice (some ⟨fb, fo, none⟩) vs.length fc), (61, .int .i64 (k : Nat)), (62, .pointer (some ⟨fb, fo + k * 3, none⟩)), (63, .pointer (some ⟨fb, fo + k * 3 + 2, none⟩)), (64, .int .i64 (f.size : Nat)), (65, .tuple #[.string (bs (putS x (f.size : Int))), .int .i64 (putE x (f.size : Int) : Nat)]), (54, .tuple #[.string (bs (putS x (f.size : Int))), .int .i64 (putE x (f.size : Int) : Nat)]), (66, .string (bs (putS x (f.size : Int)))), (67, .int .i64 (putE x (f.size : Int) : Nat)), (8, .string (bs (putS x (f.size : Int)))), (9, .int .i64 (putE x (f.size : Int) : Nat))] (fun w' => Below w2.heap.size w2 w') ?kaf1 hmx (by kernel_rfl) (by kernel_rfl) (fun w w' h hb => h.trans (hb.mono h.size)) hb.drew ?keach1 ?kgo1
              case kaf1 =>
                simp only [putAll, List.foldl_cons, List.foldl_nil, List.setIfInBounds_toArray, List.set_cons_zero, List.set_cons_succ]
                exact rfl
              case keach1 =>
                have z3 : ∀ w', Below w2.heap.size w2 w' → w'.cell? ⟨w.heap.size, 3, none⟩ = some (.slice (some ⟨vb, vo, none⟩) vs.length sc) := fun w' h => (h.cell (p := ⟨w.heap.size, 3, none⟩) HB2.out.lt).trans p3
                have zx : ∀ w', Below w2.heap.size w2 w' → w'.cell? ⟨vb, vo + k, none⟩ = some (.int .u64 (x : Int)) := fun w' h => (h.cell (p := ⟨vb, vo + k, none⟩) hvb2).trans ((b2.cell (p := ⟨vb, vo + k, none⟩) hvb).trans HV3.out)
                have zs : ∀ w', Below w2.heap.size w2 w' → w'.cell? ⟨fb, fo + k * 3 + 2, none⟩ = some (.int .i64 (f.size : Int)) := fun w' h => (h.cell (p := ⟨fb, fo + k * 3 + 2, none⟩) hfb).trans HF3.out.2.2
                have hrf : ∀ w : World, Below w.heap.size w w := fun w => Below.refl _ w
                have cn := fun w => hid (number_any x (f.size : Int) w hx64)
                clear HF3 HV3 cb cg c1
                simp +contextual [EachOp, OpTo, go_sem, Oper.about, z3, zx, zs, hrf, hklt]
                exact fun w' h => ⟨trivial, callsIn_wide.2 (cn w').out⟩
              case kgo1 =>
                intro w' hb'
                have E4 := HE2.out.below hb'
                have b4 := b2.trans (hb'.mono b2.size)
                have hpe : putE x (f.size : Int) = if 256 ^ f.size ≤ x then 4 else 0 := by
                  unfold putE
                  rw [if_neg (by omega), Int.toNat_natCast]
                by_cases hbad : 256 ^ f.size ≤ x
                · rw [if_pos hbad] at heq hpe
                  have HR := hid (HR2.out k hlen heq)
                  rw [hpe]
                  have t0 : w'.cell? ⟨w.heap.size + 1, 0, none⟩ = some (.int .i64 0) := (E4.cell 0).trans rfl
                  have t1 : w'.cell? ⟨w.heap.size + 1, 1, none⟩ = some (.int .i64 0) := (E4.cell 1).trans rfl
                  have v0 := E4.free 0
                  have v1 := E4.free 1
                  go_wp2
                  refine bodyPost_ret (v := .agg #[.int .i64 2, .int .i64 (k : Nat)]) (by simp [results, Tryz.results93, go_sem, t0, t1]) rfl ?_
                  exact ⟨by rw [HR.out]; rfl, below_setc (below_setc b4 (by omega) _ _) (by omega) _ _⟩
                · rw [if_neg hbad] at heq hpe
                  have Heq := hid heq
                  rw [hpe]
                  clear hbad heq hfk hxk
                  go_wp2
                  go_roundw
                  case rel => exact ⟨k + 1, by omega, by go_num, Heq.out, hb'⟩
                  case measure => simp [intOf]; omega
            · obtain rfl : k = r.fields.length := by omega
              have HR := hid (HR0.out hlen (by rw [heq, List.drop_length]; simp [firstBad]))
              have E4 := HE2.out.below (hb.mono (Nat.le_refl _))
              have b4 := b2.trans (hb.mono b2.size)
              go_wp2_with fail
              refine (cg _).out.mono ?_
              rintro e w9 ⟨rfl, hb9⟩
              have E9 := E4.below hb9
              have b9 := b4.trans (hb9.mono b4.size)
              have t0 : w9.cell? ⟨w.heap.size + 1, 0, none⟩ = some (.int .i64 0) := (E9.cell 0).trans rfl
              have t1 : w9.cell? ⟨w.heap.size + 1, 1, none⟩ = some (.int .i64 0) := (E9.cell 1).trans rfl
              have v0 := E9.free 0
              have v1 := E9.free 1
              go_wp2
              refine bodyPost_ret (v := .agg #[.int .i64 0, .int .i64 (-1)]) (by simp [results, Tryz.results93, go_sem, t0, t1]) rfl ?_
              exact ⟨by rw [HR.out]; rfl, below_setc (below_setc b9 (by omega) _ _) (by omega) _ _⟩
      · have HR := hid (HR7.out hlen)
        have hli : ¬ (r.fields.length : Int) = (vs.length : Int) := by omega
        rcases hdn with rfl | ⟨rfl, hd1⟩
        · skip
          go_wp2_with fail
          refine (cb _ _).out.mono ?_
          rintro e w9 ⟨rfl, hb9⟩
          have E9 := HE2.out.below hb9
          have b9 := b2.trans (hb9.mono b2.size)
          have t0 : w9.cell? ⟨w.heap.size + 1, 0, none⟩ = some (.int .i64 0) := (E9.cell 0).trans rfl
          have t1 : w9.cell? ⟨w.heap.size + 1, 1, none⟩ = some (.int .i64 0) := (E9.cell 1).trans rfl
          have v0 := E9.free 0
          have v1 := E9.free 1
          go_wp2
          refine bodyPost_ret (v := .agg #[.int .i64 7, .int .i64 (-1)]) (by simp [results, Tryz.results93, go_sem, t0, t1]) rfl ?_
          exact ⟨by rw [HR.out]; rfl, below_setc (below_setc b9 (by omega) _ _) (by omega) _ _⟩
        · skip
          go_wp2_with fail
          refine (cb _ _).out.mono ?_
          rintro e w9 ⟨rfl, hb9⟩
          have E9 := HE2.out.below hb9
          have b9 := b2.trans (hb9.mono b2.size)
          have t0 : w9.cell? ⟨w.heap.size + 1, 0, none⟩ = some (.int .i64 0) := (E9.cell 0).trans rfl
          have t1 : w9.cell? ⟨w.heap.size + 1, 1, none⟩ = some (.int .i64 0) := (E9.cell 1).trans rfl
          have v0 := E9.free 0
          have v1 := E9.free 1
          go_wp2
          refine bodyPost_ret (v := .agg #[.int .i64 7, .int .i64 (-1)]) (by simp [results, Tryz.results93, go_sem, t0, t1]) rfl ?_
          exact ⟨by rw [HR.out]; rfl, below_setc (below_setc b9 (by omega) _ _) (by omega) _ _⟩
end
end Go.Proofs.YtbimlijhgeajjaaGreatDoor
