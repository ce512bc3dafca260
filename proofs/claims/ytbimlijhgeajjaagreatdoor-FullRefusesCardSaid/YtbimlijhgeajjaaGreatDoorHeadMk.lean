/- The head that names and numbers make: by the program. -/
import Derived.Test.YtbimlijhgeajjaaGreatDoorHeadRdPure
import Derived.Test.YtbimlijhgeajjaaGreatDoorHeadRdBase
import Derived.Deep.RegionHeld
set_option linter.unusedSectionVars false
set_option linter.unusedSimpArgs false
set_option linter.unusedVariables false
namespace Go.Proofs.YtbimlijhgeajjaaGreatDoor
open Go Go.RowKit
set_option linter.unusedVariables false
set_option linter.unusedSectionVars false
set_option linter.unusedSimpArgs false
set_option maxRecDepth 100000
def strCells (ns : List (List UInt8)) : List Value := ns.map fun s => .string (bs s)
theorem strs_open {w : World} {v : Value} {ns : List (List UInt8)} (h : Sl w v 1 ns.length (strCells ns)) (hn : 0 < ns.length) :
    ∃ b o c, v = .slice (some ⟨b, o, none⟩) ns.length c ∧ b < w.heap.size ∧ ∀ (k : Nat) (s : List UInt8), ns[k]? = some s → w.cell? ⟨b, o + k, none⟩ = some (.string (bs s)) := by
  obtain ⟨a, c, rfl, hl, h | ⟨b, o, rfl, hc⟩⟩ := h
  · omega
  · have hk : ∀ (k : Nat) (s : List UInt8), ns[k]? = some s → w.cell? ⟨b, o + k, none⟩ = some (.string (bs s)) := fun k s hs => hc k _ (by rw [strCells, List.getElem?_map, hs]; rfl)
    exact ⟨b, o, c, rfl, World.block_lt_of_cell? w ⟨b, o + 0, none⟩ (hk 0 _ (List.getElem?_eq_getElem hn)), hk⟩
theorem make_u64 (n : Nat) (h : n ≤ 1000) (w : World) :
    (Instr.makeSlice 49 (.int .i64 (n : Int)) (.int .i64 (n : Int))).run Tryz.prog w = .ok (.slice (some ⟨w.heap.size, 0, none⟩) n n) (w.alloc (.cells (u64Cells (List.replicate n 0)).toArray 114)) := by
  obtain ⟨i, h1, h2, h3, h4⟩ := info_parts infoU64
  have := run_make (P := Tryz.prog) w 49 114 i (.int .u64 0) Tryz.underlying49 h1 h2 .i64 .i64 (n : Int) (n : Int) (by omega) (by omega) (by rw [h4]; omega) (by omega)
  rw [this, h3]
  simp [madeCells, u64Cells, Value.cells, List.map_replicate]
  congr 3
  apply Array.ext
  · simp
  · intro j h5 h6
    simp [Nat.mod_one]
theorem blk_sl {W : World} {V : Nat} {t : TypeId} {xs : List Nat} (h : Blk W V t (u64Cells xs).toArray) : Sl W (.slice (some ⟨V, 0, none⟩) xs.length xs.length) 1 xs.length (u64Cells xs) :=
  ⟨_, _, rfl, by simp [u64Cells], .inr ⟨V, 0, rfl, fun j u hu => by rw [Nat.zero_add, h.cell j]; simpa using hu⟩⟩
theorem blk_only {w w' : World} {h m : Nat} {t : TypeId} {cs : Array Value} (B : Blk w h t cs) (hg : w.grownBy w' (some m)) (hne : h ≠ m) : Blk w' h t cs :=
  (hg.block h B.lt (fun e => hne (Option.some.inj e))).trans B
def MakePost (op flags : Int) (R : Nat × Int × List Nat) (w : World) (e : Ending) (w' : World) : Prop :=
  ∃ v ev, e = .returned (.tuple #[headV (if R.1 = 0 then op else 0) false (if R.1 = 0 then flags else 0) v, ev]) ∧ ErrIs w' ev R.1 R.2.1 ∧ Sl w' v 1 R.2.2.length (u64Cells R.2.2) ∧ Below w.heap.size w w'
def RMk (fs : List FR) (vs : List Nat) (ns : List (List UInt8)) (V : Nat) (w5 : World) (i : Value) (wr : World) : Prop :=
  ∃ (k : Nat) (g : List UInt8 → Nat), k ≤ ns.length ∧ i = .int .i64 (k : Nat) ∧ mkG fs vs ns 0 (fun _ => 0) = mkG fs vs (ns.drop k) k g ∧ (∀ m, g m ≤ 18446744073709551615) ∧ Blk wr V 114 (u64Cells (fs.map fun f => g f.name)).toArray ∧ w5.grownBy wr (some V)
def RMi (fs : List FR) (n : List UInt8) (wo : World) (a i : Value) (wi : World) : Prop :=
  ∃ j : Nat, j ≤ fs.length ∧ i = .int .i64 (j : Nat) ∧ a = .int .i64 (atN fs n j) ∧ Below wo.heap.size wo wi
theorem set_vals (fs : List FR) (hd : (fs.map FR.name).Nodup) (g : List UInt8 → Nat) (n : List UInt8) (x p : Nat) (h : (fs[p]?.map FR.name) = some n) :
    (u64Cells (fs.map fun f => g f.name)).toArray.setIfInBounds p (.int .u64 (x : Int)) = (u64Cells (fs.map fun f => setN g n x f.name)).toArray := by
  rw [map_setN fs hd g n x p h, List.setIfInBounds_toArray]
  simp [u64Cells, List.map_set]
section
variable (op flags : Int) (nv vv : Value) (ns : List (List UInt8)) (vs : List Nat) (w : World) (h0 : -9223372036854775808 ≤ op) (h1 : op ≤ 9223372036854775807) (g0 : -9223372036854775808 ≤ flags) (g1 : flags ≤ 9223372036854775807)
  (hn : ns.length ≤ 60) (hm : vs.length ≤ 60) (hv : ∀ x ∈ vs, x ≤ 18446744073709551615) (hns : Sl w nv 1 ns.length (strCells ns)) (hvs : Sl w vv 1 vs.length (u64Cells vs)) (hT : AS w) (hP : PT w)
include h0 h1 g0 g1 hn hm hv hns hvs hT hP
set_option maxHeartbeats 4000000 in
theorem make_any : Calls Tryz.prog 82 #[.int .i64 op, .int .i64 flags, nv, vv] w fun e w' => MakePost op flags (makeH op flags ns vs) w e w' := by
  have c2 := fun w1 (hb : Below w.heap.size w w1) => hid (hfields_any op h0 h1 w1 (hT.below hb (Nat.le_refl _)) (hP.below hb (Nat.le_refl _)))
  have c3 := fun v xs w1 hn hv (hb : Below w.heap.size w w1) (hsl : Sl w1 v 1 xs.length (u64Cells xs)) => hid (right_any op false flags v xs w1 h0 h1 g0 g1 hn hv hsl (hT.below hb (Nat.le_refl _)) (hP.below hb (Nat.le_refl _)))
  have C3 := hid c3
  unfold FieldsPost at c2
  have HNS := hid hns; have HVS := hid hvs
  obtain ⟨na, nc, rfl, _⟩ := hns
  obtain ⟨va, vc, rfl, _⟩ := hvs
  have Hv := hid hv
  clear hT hP c3 hv
  have b1 := (Below.refl w.heap.size w).alloc (Nat.le_refl _) (.cells #[.int .i64 0, .bool false, .int .i64 0, .slice none 0 0] 51)
  have B1 := Blk.new w 51 #[.int .i64 0, .bool false, .int .i64 0, .slice none 0 0]
  have hC2 := (c2 _ b1).out
  clear c2
  cases hf : findH op with
  | none =>
    rw [hf] at hC2
    have HR := hid (show makeH op flags ns vs = (1, -1, []) by unfold makeH; rw [hf])
    have HC2 := hid hC2; clear hC2
    go_enter Tryz.func82, Tryz.ntmps82
    go_wp2_with fail
    refine HC2.out.mono ?_
    rintro e w2 ⟨fv, rfl, _, hnil, hb2⟩
    obtain rfl := hnil (by trivial)
    have B2 := B1.below hb2
    have b2 := b1.trans (hb2.mono b1.size)
    have v0 := B2.free 0; have v1 := B2.free 1; have v2 := B2.free 2; have v3 := B2.free 3
    have t0 : w2.cell? ⟨w.heap.size, 0, none⟩ = some (.int .i64 0) := (B2.cell 0).trans rfl
    have t1 : w2.cell? ⟨w.heap.size, 1, none⟩ = some (.bool false) := (B2.cell 1).trans rfl
    have t2 : w2.cell? ⟨w.heap.size, 2, none⟩ = some (.int .i64 0) := (B2.cell 2).trans rfl
    have t3 : w2.cell? ⟨w.heap.size, 3, none⟩ = some (.slice none 0 0) := (B2.cell 3).trans rfl
    simp only [HErr, hE, errV]
    go_wp2
    refine bodyPost_ret (v := .tuple #[headV 0 false 0 (.slice none 0 0), .iface 32 (.int .i64 1)]) (by simp [results, Tryz.results82, go_sem, t0, t1, t2, t3]; rfl) rfl ?_
    refine ⟨_, _, by rw [HR.out]; rfl, by rw [HR.out]; exact .bare 1 (by omega), by rw [HR.out]; exact sl_nil _ _, ?_⟩
    iterate 4 refine below_setc ?_ (Nat.le_refl w.heap.size) _ _
    exact b2
  | some r =>
    rw [hf] at hC2
    have hmem := findH_mem hf
    have hn0 := fields_pos r hmem
    have hnf := (head_fine r hmem).2.2.2.2.2.2.1
    have Hnd := hid (names_nodup r hmem)
    have HR := hid (show makeH op flags ns vs = _ by unfold makeH; rw [hf])
    simp only [HErr, hE, errV, hFields] at hC2
    have HC2 := hid hC2; clear hC2
    go_enter Tryz.func82, Tryz.ntmps82
    go_wp2_with fail
    refine HC2.out.mono ?_
    rintro e w2 ⟨fv, rfl, hfs, _, hb2⟩
    have B2 := B1.below hb2
    have b2 := b1.trans (hb2.mono b1.size)
    obtain ⟨fb, fo, fc, rfl, hfb, hfc⟩ := fields_open hfs hn0
    have HFC := hid hfc
    have hmk := make_u64 r.fields.length (by omega)
    have hlt2 := B2.lt
    have BV := Blk.new w2 114 (u64Cells (List.replicate r.fields.length 0)).toArray
    have hA1 := (Below.refl w2.heap.size w2).alloc (Nat.le_refl _) (.cells (u64Cells (List.replicate r.fields.length 0)).toArray 114)
    have hA2 := hA1.alloc hA1.size (.cells #[.int .i64 op, .bool false, .int .i64 flags, .slice (some ⟨w2.heap.size, 0, none⟩) r.fields.length r.fields.length] 51)
    have BH := Blk.new (w2.alloc (.cells (u64Cells (List.replicate r.fields.length 0)).toArray 114)) 51 #[.int .i64 op, .bool false, .int .i64 flags, .slice (some ⟨w2.heap.size, 0, none⟩) r.fields.length r.fields.length]
    have BV := BV.below ((Below.refl _ _).alloc (Nat.le_refl _) (.cells #[.int .i64 op, .bool false, .int .i64 flags, .slice (some ⟨w2.heap.size, 0, none⟩) r.fields.length r.fields.length] 51))
    simp only [World.size_alloc] at BH
    have B4 := B2.below hA2
    have b4 := b2.trans (hA2.mono b2.size)
    clear hfc hfs HC2 B1 b1 hb2 hf
    go_wp2_with fail
    generalize hW5 : (w2.alloc (.cells (u64Cells (List.replicate r.fields.length 0)).toArray 114)).alloc (.cells #[.int .i64 op, .bool false, .int .i64 flags, .slice (some ⟨w2.heap.size, 0, none⟩) r.fields.length r.fields.length] 51) = W5 at *
    have hs5 : W5.heap.size = w2.heap.size + 2 := by rw [← hW5]; simp
    have BV : Blk W5 w2.heap.size 114 (u64Cells (r.fields.map fun f => (fun _ : List UInt8 => (0 : Nat)) f.name)).toArray := by
      have e : r.fields.map (fun f => (fun _ : List UInt8 => (0 : Nat)) f.name) = List.replicate r.fields.length 0 := by
        simp [List.map_const']
      rw [e]; exact BV
    clear hW5 hA1 hmk
    go_loopw [36] (fun i wr => RMk r.fields vs ns w2.heap.size W5 i wr) (fun i _ => ns.length - (intOf i).toNat)
    case atStart => exact ⟨0, _, by omega, rfl, rfl, fun _ => by simp, BV, only_refl _ _⟩
    case round =>
      rename World => wo
      obtain ⟨k, g, hk, rfl, heq, hgb, hBV, hO⟩ := hrel
      have hsz := hO.size
      have hbw := below_only b4 hO b2.size b4.size
      have hBr := blk_only B4 hO (by omega)
      have hBH := blk_only BH hO (by omega)
      by_cases hlt : k < ns.length
      · obtain ⟨n, hnk⟩ : ∃ n, ns[k]? = some n := ⟨ns[k], List.getElem?_eq_getElem hlt⟩
        rw [mkG_drop r.fields vs ns k g n hnk] at heq
        obtain ⟨nb, no, nc', hne, hnb, hnc⟩ := strs_open HNS.out (by omega)
        cases hne
        have hnb2 : nb < W5.heap.size := Nat.lt_of_lt_of_le hnb b4.size
        have z0 := ((grown_cell hO (p := ⟨nb, no + k, none⟩) hnb2 (by show nb ≠ _; omega)).trans (b4.cell (p := ⟨nb, no + k, none⟩) hnb)).trans (hnc k n hnk)
        have Heq := hid heq
        have Hgb := hid hgb
        clear heq hgb hnk hnc
        go_wp2
        go_loopw [15, 43] (fun a i wi => RMi r.fields n wo a i wi) (fun _ i _ => r.fields.length - (intOf i).toNat)
        case atStart => exact ⟨0, by omega, rfl, rfl, Below.refl _ _⟩
        case round =>
          obtain ⟨j, hj, rfl, rfl, hbi⟩ := hrel
          have hsi := hbi.size
          by_cases hjl : j < r.fields.length
          · obtain ⟨f, hfk⟩ : ∃ f, r.fields[j]? = some f := ⟨r.fields[j], List.getElem?_eq_getElem hjl⟩
            obtain ⟨y0, y1, y2⟩ := HFC.out j f hfk
            have hfb5 : fb < W5.heap.size := by omega
            have hfbo : fb < wo.heap.size := by omega
            have hfv : fb ≠ w2.heap.size := by omega
            have y0 := (hbi.cell (p := ⟨fb, fo + j * 3, none⟩) hfbo).trans ((grown_cell hO (p := ⟨fb, fo + j * 3, none⟩) hfb5 hfv).trans ((hA2.cell (p := ⟨fb, fo + j * 3, none⟩) hfb).trans y0))
            have y1 := (hbi.cell (p := ⟨fb, fo + j * 3 + 1, none⟩) hfbo).trans ((grown_cell hO (p := ⟨fb, fo + j * 3 + 1, none⟩) hfb5 hfv).trans ((hA2.cell (p := ⟨fb, fo + j * 3 + 1, none⟩) hfb).trans y1))
            have y2 := (hbi.cell (p := ⟨fb, fo + j * 3 + 2, none⟩) hfbo).trans ((grown_cell hO (p := ⟨fb, fo + j * 3 + 2, none⟩) hfb5 hfv).trans ((hA2.cell (p := ⟨fb, fo + j * 3 + 2, none⟩) hfb).trans y2))
            have Hst := hid (atN_step r.fields n j f hfk)
            have q8 : w.heap.size < wr.heap.size := by omega
            clear hfk
            by_cases hname : f.name = n
            · have hbe : (f.name == n) = true := by simpa using hname
              have Hat := hid (show atN r.fields n (j + 1) = (j : Int) by rw [Hst.out, if_pos hname])
              go_wp2
              go_roundw
              case rel => exact ⟨j + 1, by omega, by go_num, by rw [Hat.out], hbi.alloc hsi _⟩
              case measure => simp [intOf]; omega
            · have hbe : (f.name == n) = false := by simpa using hname
              have Hat := hid (show atN r.fields n (j + 1) = atN r.fields n j by rw [Hst.out, if_neg hname])
              go_wp2
              go_roundw
              case rel => exact ⟨j + 1, by omega, by go_num, by rw [Hat.out], hbi.alloc hsi _⟩
              case measure => simp [intOf]; omega
          · obtain rfl : j = r.fields.length := by omega
            have hBr2 := hBr.below hbi
            have hbw2 := hbw.trans (hbi.mono hbw.size)
            have hcs : (hasN r.fields n r.fields.length = false ∧ atN r.fields n r.fields.length < 0) ∨ (hasN r.fields n r.fields.length = true ∧ ∃ p : Nat, p < r.fields.length ∧ atN r.fields n r.fields.length = (p : Int) ∧ (r.fields[p]?.map FR.name) = some n) := by
              have h1 := hasN_at r.fields n r.fields.length (Nat.le_refl _)
              have h2 := atN_range r.fields n r.fields.length
              by_cases h : 0 ≤ atN r.fields n r.fields.length
              · right
                obtain ⟨p, hp⟩ := Int.eq_ofNat_of_zero_le h
                exact ⟨by rw [h1, decide_eq_true h], p, by omega, hp, atN_name _ _ _ _ (Nat.le_refl _) hp⟩
              · left
                exact ⟨by rw [h1, decide_eq_false h], by omega⟩
            rcases hcs with ⟨hh, ha⟩ | ⟨hh, p, hp, ha, hpn⟩
            · have HRf := hid (show makeH op flags ns vs = (5, -1, []) by
                rw [HR.out, Heq.out, if_pos hh]; rfl)
              have hd := decide_eq_true ha
              generalize atN r.fields n r.fields.length = ai at *
              clear hh
              have v0 := hBr2.free 0; have v1 := hBr2.free 1; have v2 := hBr2.free 2; have v3 := hBr2.free 3
              have t0 : World.cell? _ ⟨w.heap.size, 0, none⟩ = some (.int .i64 0) := (hBr2.cell 0).trans rfl
              have t1 : World.cell? _ ⟨w.heap.size, 1, none⟩ = some (.bool false) := (hBr2.cell 1).trans rfl
              have t2 : World.cell? _ ⟨w.heap.size, 2, none⟩ = some (.int .i64 0) := (hBr2.cell 2).trans rfl
              have t3 : World.cell? _ ⟨w.heap.size, 3, none⟩ = some (.slice none 0 0) := (hBr2.cell 3).trans rfl
              go_wp2
              refine bodyPost_ret (v := .tuple #[headV 0 false 0 (.slice none 0 0), .iface 32 (.int .i64 5)]) (by simp [results, Tryz.results82, go_sem, t0, t1, t2, t3]; rfl) rfl ?_
              refine ⟨_, _, by rw [HRf.out]; rfl, by rw [HRf.out]; exact .bare 5 (by omega), by rw [HRf.out]; exact sl_nil _ _, ?_⟩
              iterate 4 refine below_setc ?_ (Nat.le_refl w.heap.size) _ _
              exact hbw2
            · have heq2 := Heq.out
              rw [if_neg (by rw [hh]; simp)] at heq2
              have Heq2 := hid heq2; clear heq2
              rw [ha]
              have hd : decide ((p : Int) < 0) = false := decide_eq_false (by omega)
              clear hh ha
              by_cases hkv : k < vs.length
              · obtain ⟨x, hx⟩ : ∃ x, vs[k]? = some x := ⟨vs[k], List.getElem?_eq_getElem hkv⟩
                obtain ⟨vb, vo, vc', hve, hvb, hvc⟩ := vals_open HVS.out (by omega)
                cases hve
                have hvb2 : vb < W5.heap.size := Nat.lt_of_lt_of_le hvb b4.size
                have zx := (hbi.cell (p := ⟨vb, vo + k, none⟩) (Nat.lt_of_lt_of_le hvb2 hsz)).trans (((grown_cell hO (p := ⟨vb, vo + k, none⟩) hvb2 (by show vb ≠ _; omega)).trans (b4.cell (p := ⟨vb, vo + k, none⟩) hvb)).trans (hvc k x hx))
                have hx64 := Hv.out x (List.mem_of_getElem? hx)
                have heq3 := Heq2.out
                rw [hx] at heq3
                have Heq3 := hid heq3; clear heq3
                have hd2 : decide ((vs.length : Int) ≤ (k : Int)) = false := decide_eq_false (by omega)
                have hBV2 := hBV.below hbi
                have hBH2 := hBH.below hbi
                have Hset := hid (set_vals r.fields Hnd.out g n x p hpn)
                clear hx hvc hpn
                go_wp2
                have hmx : Tryz.prog.follows .mixedOrders = true := by kernel_rfl
                refine wpIn_wide (n := 4).1 ?_
                refine region_last (aF := ?kA) 8 [(66, .pointer (some ⟨w2.heap.size + 1, 3, none⟩)), (67, .slice (some ⟨w2.heap.size, 0, none⟩) r.fields.length r.fields.length), (68, .int .i64 (p : Int)), (69, .slice (some ⟨vb, vo, none⟩) vs.length vc), (70, .int .i64 (k : Int)), (71, .pointer (some ⟨vb, vo + k, none⟩)), (72, .int .u64 (x : Int)), (73, .pointer (some ⟨w2.heap.size, p, none⟩))] (fun W => Below wr.heap.size wr W) ?kB hmx rfl (by kernel_rfl) (by kernel_rfl) (fun w w' h hb => h.trans (hb.mono h.size)) (Below.refl _ _).drew ?kC rfl ?kD
                case kB =>
                  simp only [putAll, List.foldl_cons, List.foldl_nil, List.setIfInBounds_toArray, List.set_cons_zero, List.set_cons_succ]
                  exact rfl
                case kC =>
                  have hrf : ∀ w : World, Below w.heap.size w w := fun w => Below.refl _ w
                  have p3 : wr.cell? ⟨w2.heap.size + 1, 3, none⟩ = some (.slice (some ⟨w2.heap.size, 0, none⟩) r.fields.length r.fields.length) := (hBH2.cell 3).trans rfl
                  refine ⟨?_, ?_, ?_, ?_, ?_, ?_, ?_, ?_, trivial⟩
                  all_goals refine ⟨by simp, fun W h => ⟨by simp [go_sem, Oper.about], ?_⟩⟩
                  all_goals
                    have u1 := (h.cell (p := ⟨vb, vo + k, none⟩) (by show vb < _; omega)).trans zx
                    have u2 := (h.cell (p := ⟨w2.heap.size + 1, 3, none⟩) hBH2.lt).trans p3
                    clear h
                  all_goals first
                    | (simp [OpTo, go_sem, hrf]; done)
                    | (simp [OpTo, go_sem, hrf, u1]; done)
                    | (simp [OpTo, go_sem, hrf, u2]; done)
                    | (simp [OpTo, go_sem, hrf, hkv]; done)
                    | (simp [OpTo, go_sem, hrf, hp]; done)
                    | skip
                case kD =>
                  intro W hW
                  have hBV3 := hBV2.below hW
                  have fz := hBV3.free p
                  have tz : W.cell? ⟨w2.heap.size, p, none⟩ = some (.int .u64 (g (r.fields[p]).name : Nat)) := by
                    rw [hBV3.cell p]
                    simp [u64Cells, hp]
                  gi_wp2
                  have hbW := hbi.trans (hW.mono hsi)
                  have hg1 : W5.grownBy W (some w2.heap.size) := only_trans hO ⟨hbW.os, hbW.tape, hbW.output, hbW.size, fun i hi _ => hbW.block i hi⟩
                  have hg2 : W5.grownBy (W.setCell ⟨w2.heap.size, p, none⟩ (.int .u64 (x : Int))) (some w2.heap.size) := only_trans hg1 ⟨rfl, rfl, rfl, by simp [World.setCell], fun i _ hi => Below.heap_setCell W ⟨w2.heap.size, p, none⟩ _ i (fun e => hi (by rw [e]))⟩
                  have hBV4 := hBV3.set p (.int .u64 (x : Int))
                  rw [Hset.out] at hBV4
                  go_wp2
                  go_roundw
                  case rel => exact ⟨k + 1, _, by omega, by go_num, Heq3.out, fun m => by
                      unfold setN
                      split
                      · exact hx64
                      · exact Hgb.out m, hBV4, hg2⟩
                  case measure => simp [intOf]; omega
              · have HRf := hid (show makeH op flags ns vs = (7, -1, []) by
                  have h := Heq2.out
                  rw [List.getElem?_eq_none (by omega)] at h
                  rw [HR.out, h]; rfl)
                have hd2 : decide ((vs.length : Int) ≤ (k : Int)) = true := decide_eq_true (by omega)
                have v0 := hBr2.free 0; have v1 := hBr2.free 1; have v2 := hBr2.free 2; have v3 := hBr2.free 3
                have t0 : World.cell? _ ⟨w.heap.size, 0, none⟩ = some (.int .i64 0) := (hBr2.cell 0).trans rfl
                have t1 : World.cell? _ ⟨w.heap.size, 1, none⟩ = some (.bool false) := (hBr2.cell 1).trans rfl
                have t2 : World.cell? _ ⟨w.heap.size, 2, none⟩ = some (.int .i64 0) := (hBr2.cell 2).trans rfl
                have t3 : World.cell? _ ⟨w.heap.size, 3, none⟩ = some (.slice none 0 0) := (hBr2.cell 3).trans rfl
                go_wp2
                refine bodyPost_ret (v := .tuple #[headV 0 false 0 (.slice none 0 0), .iface 32 (.int .i64 7)]) (by simp [results, Tryz.results82, go_sem, t0, t1, t2, t3]; rfl) rfl ?_
                refine ⟨_, _, by rw [HRf.out]; rfl, by rw [HRf.out]; exact .bare 7 (by omega), by rw [HRf.out]; exact sl_nil _ _, ?_⟩
                iterate 4 refine below_setc ?_ (Nat.le_refl w.heap.size) _ _
                exact hbw2
      · obtain rfl : k = ns.length := by omega
        rw [mkG_end r.fields vs ns _ g (Nat.le_refl _)] at heq
        have HRx := hid (show makeH op flags ns vs = if (rightH op false flags (r.fields.map fun f => g f.name)).1 ≠ 0 then ((rightH op false flags (r.fields.map fun f => g f.name)).1, (rightH op false flags (r.fields.map fun f => g f.name)).2, []) else (0, -1, r.fields.map fun f => g f.name) by
          rw [HR.out, heq]; rfl)
        have hvl : (r.fields.map fun f => g f.name).length = r.fields.length := by simp
        have hvb : ∀ x ∈ r.fields.map (fun f => g f.name), x ≤ 18446744073709551615 := by
          intro x hx
          obtain ⟨f, _, rfl⟩ := List.mem_map.1 hx
          exact hgb _
        have hsl := blk_sl hBV
        have d3 := (C3.out _ _ wo (by omega) hvb hbw hsl).out
        rw [hvl] at d3 hsl
        unfold RightPost at d3
        unfold headV at d3
        have D3 := hid d3
        have HBV := hid hBV
        have HSL := hid hsl
        generalize r.fields.map (fun f => g f.name) = xs at *
        have p0 : wo.cell? ⟨w2.heap.size + 1, 0, none⟩ = some (.int .i64 op) := (hBH.cell 0).trans rfl
        have p1 : wo.cell? ⟨w2.heap.size + 1, 1, none⟩ = some (.bool false) := (hBH.cell 1).trans rfl
        have p2 : wo.cell? ⟨w2.heap.size + 1, 2, none⟩ = some (.int .i64 flags) := (hBH.cell 2).trans rfl
        have p3 : wo.cell? ⟨w2.heap.size + 1, 3, none⟩ = some (.slice (some ⟨w2.heap.size, 0, none⟩) r.fields.length r.fields.length) := (hBH.cell 3).trans rfl
        clear d3 hvb hgb heq hBV hsl C3
        go_wp2_with fail
        refine D3.out.mono ?_
        rintro e W9 ⟨ev, rfl, her, hb9⟩
        have hBr9 := hBr.below hb9
        have hBH9 := hBH.below hb9
        have b9 := hbw.trans (hb9.mono hbw.size)
        have hsl9 := HSL.out.below (Nat.le_refl _) hb9
        have HBV9 := hid (HBV.out.below hb9)
        clear p0 p1 p2 p3 D3
        have v0 := hBr9.free 0; have v1 := hBr9.free 1; have v2 := hBr9.free 2; have v3 := hBr9.free 3
        have t0 : World.cell? _ ⟨w.heap.size, 0, none⟩ = some (.int .i64 0) := (hBr9.cell 0).trans rfl
        have t1 : World.cell? _ ⟨w.heap.size, 1, none⟩ = some (.bool false) := (hBr9.cell 1).trans rfl
        have t2 : World.cell? _ ⟨w.heap.size, 2, none⟩ = some (.int .i64 0) := (hBr9.cell 2).trans rfl
        have t3 : World.cell? _ ⟨w.heap.size, 3, none⟩ = some (.slice none 0 0) := (hBr9.cell 3).trans rfl
        by_cases hk0 : (rightH op false flags xs).1 = 0
        · have HRf := hid (show makeH op flags ns vs = (0, -1, xs) by rw [HRx.out, if_neg (by simp [hk0])])
          rw [hk0] at her
          obtain rfl := errIs_zeroH her
          have p0 : W9.cell? ⟨w2.heap.size + 1, 0, none⟩ = some (.int .i64 op) := (hBH9.cell 0).trans rfl
          have p1 : W9.cell? ⟨w2.heap.size + 1, 1, none⟩ = some (.bool false) := (hBH9.cell 1).trans rfl
          have p2 : W9.cell? ⟨w2.heap.size + 1, 2, none⟩ = some (.int .i64 flags) := (hBH9.cell 2).trans rfl
          have p3 : W9.cell? ⟨w2.heap.size + 1, 3, none⟩ = some (.slice (some ⟨w2.heap.size, 0, none⟩) r.fields.length r.fields.length) := (hBH9.cell 3).trans rfl
          go_wp2
          refine bodyPost_ret (v := .tuple #[headV op false flags (.slice (some ⟨w2.heap.size, 0, none⟩) r.fields.length r.fields.length), .nilIface]) (by simp [results, Tryz.results82, go_sem, t0, t1, t2, t3]; rfl) rfl ?_
          have hne0 : w.heap.size ≠ w2.heap.size := by omega
          have hBV9 := HBV9.out
          have hfar : ∀ (W : World) (i : Nat) (u : Value), Blk W w2.heap.size 114 (u64Cells xs).toArray → Blk (W.setCell ⟨w.heap.size, i, none⟩ u) w2.heap.size 114 (u64Cells xs).toArray := fun W i u h => (Below.heap_setCell W ⟨w.heap.size, i, none⟩ u w2.heap.size (fun e => hne0 e.symm)).trans h
          have hs8 := blk_sl (hfar _ 3 (.slice (some ⟨w2.heap.size, 0, none⟩) r.fields.length r.fields.length) (hfar _ 2 (.int .i64 flags) (hfar _ 1 (.bool false) (hfar _ 0 (.int .i64 op) hBV9))))
          rw [hvl] at hs8
          refine ⟨_, _, by rw [HRf.out, if_pos rfl, if_pos rfl], by rw [HRf.out]; exact .nil, by rw [HRf.out]; rw [show xs.length = r.fields.length from hvl]; exact hs8, ?_⟩
          iterate 4 refine below_setc ?_ (Nat.le_refl w.heap.size) _ _
          exact b9
        · have HRf := hid (show makeH op flags ns vs = ((rightH op false flags xs).1, (rightH op false flags xs).2, []) by rw [HRx.out, if_pos hk0])
          generalize rightH op false flags xs = rh at *
          obtain ⟨rk, rp⟩ := rh
          simp only at her hk0 HRf
          cases her with
          | nil => exact absurd rfl hk0
          | bare k2 h =>
            go_wp2
            refine bodyPost_ret (v := .tuple #[headV 0 false 0 (.slice none 0 0), .iface 32 (.int .i64 (rk : Int))]) (by simp [results, Tryz.results82, go_sem, t0, t1, t2, t3]; rfl) rfl ?_
            refine ⟨_, _, by rw [HRf.out, if_neg hk0, if_neg hk0], by rw [HRf.out]; exact .bare rk h, by rw [HRf.out]; exact sl_nil _ _, ?_⟩
            iterate 4 refine below_setc ?_ (Nat.le_refl w.heap.size) _ _
            exact b9
          | at_ k2 h pl b e0 e1 =>
            have hbn : w.heap.size ≠ b := by
              rintro rfl
              have := t1.symm.trans e1
              simp at this
            go_wp2
            refine bodyPost_ret (v := .tuple #[headV 0 false 0 (.slice none 0 0), .iface 98 (.pointer (some ⟨b, 0, none⟩))]) (by simp [results, Tryz.results82, go_sem, t0, t1, t2, t3]; rfl) rfl ?_
            refine ⟨_, _, by rw [HRf.out, if_neg hk0, if_neg hk0], by rw [HRf.out]; refine .at_ rk h rp b ?_ ?_ <;> (rw [World.cell?_setCell_far _ _ _ _ hbn, World.cell?_setCell_far _ _ _ _ hbn, World.cell?_setCell_far _ _ _ _ hbn, World.cell?_setCell_far _ _ _ _ hbn]; assumption), by rw [HRf.out]; exact sl_nil _ _, ?_⟩
            iterate 4 refine below_setc ?_ (Nat.le_refl w.heap.size) _ _
            exact b9
end
end Go.Proofs.YtbimlijhgeajjaaGreatDoor
