/- The head that names and numbers make: by the document. -/
import Derived.Test.YtejbigoacknfoaaGreatDoorHeadMk
import Derived.Test.YtejbigoacknfoaaGreatDoorHeadRightR
import Derived.Test.YtejbigoacknfoaaGreatDoorFaultIs
import Derived.Test.YtejbigoacknfoaaGreatDoorNames
import Derived.Test.YtejbigoacknfoaaGreatDoorDone
set_option linter.unusedSectionVars false
set_option linter.unusedSimpArgs false
set_option linter.unusedVariables false
namespace Go.Proofs.YtejbigoacknfoaaGreatDoor
open Go Go.RowKit
set_option linter.unusedVariables false
set_option linter.unusedSectionVars false
set_option linter.unusedSimpArgs false
set_option maxRecDepth 100000
def MakeRPost (op flags : Int) (R : Nat × Int × List Nat) (w : World) (e : Ending) (w' : World) : Prop :=
  ∃ v, e = .returned (.tuple #[headV (if R.1 = 0 then op else 0) false (if R.1 = 0 then flags else 0) v, faultV R.1 R.2.1]) ∧ Sl w' v 1 R.2.2.length (u64Cells R.2.2) ∧ Below w.heap.size w w'
def RMkR (fs : List FR) (vs : List Nat) (ns : List (List UInt8)) (M : Nat) (w5 : World) (i : Value) (wr : World) : Prop :=
  ∃ (k : Nat) (g : List UInt8 → Nat), k ≤ ns.length ∧ i = .int .i64 (k : Nat) ∧ mkG fs vs ns 0 (fun _ => 0) = mkG fs vs (ns.drop k) k g ∧ (∀ m, g m ≤ 18446744073709551615) ∧ NameM wr M k g ∧ w5.grownBy wr (some M)
def RMiR (fs : List FR) (n : List UInt8) (wo : World) (a i : Value) (wi : World) : Prop :=
  ∃ j : Nat, j ≤ fs.length ∧ i = .int .i64 (j : Nat) ∧ a = .bool (hasN fs n j) ∧ Below wo.heap.size wo wi
def RMv (op flags : Int) (xs : List Nat) (H : Nat) (w w6 : World) (i : Value) (wr : World) : Prop :=
  ∃ (k : Nat) (v : Value), k ≤ xs.length ∧ i = .int .i64 (k : Nat) ∧ Blk wr H 52 (HC op false flags v) ∧ wr.ownsRow w6.heap.size 161 1 v k (u64Cells (xs.take k)) ∧ KeepBut H w6 wr ∧ Below w.heap.size w wr
theorem u64_snoc (xs : List Nat) (k x : Nat) (h : xs[k]? = some x) : u64Cells (xs.take (k + 1)) = u64Cells (xs.take k) ++ [.int .u64 (x : Int)] := by
  obtain ⟨h1, h2⟩ := List.getElem?_eq_some_iff.1 h
  rw [List.take_succ_eq_append_getElem h1, h2, u64Cells, u64Cells, List.map_append]; rfl
theorem KeepBut.grown' {h base : Nat} {W w w' : World} (k : KeepBut h W w) {e : TypeId} {size n : Nat} {v : Value} {xs : List Value} (hown : w.ownsRow base e size v n xs) (hb : W.heap.size ≤ base) (hg : w.grownBy w' v.ownBlock) : KeepBut h W w' :=
  ⟨Nat.le_trans k.size hg.size, fun b h1 h2 => (hg.block b (Nat.lt_of_lt_of_le h1 k.size) (fun e => by have := (hown.lt b e.symm).1; omega)).trans (k.keep b h1 h2)⟩
theorem keep_blk {h : Nat} {W w : World} (k : KeepBut h W w) {b : Nat} {t : TypeId} {cs : Array Value} (B : Blk W b t cs) (hn : b ≠ h) : Blk w b t cs := (k.keep b B.lt hn).trans B
def MkCtx (H : Nat) (ht : TypeId) (hc r1 f1 : Array Value) (base : Nat) (sl : Value) (n : Nat) (cs : List Value) (w : World) (d : Nat → Bool) (W : World) : Prop :=
  Blk W H ht hc ∧ Blk W w.heap.size 52 (if d 2 = true then r1 else #[.int .i64 0, .bool false, .int .i64 0, .slice none 0 0]) ∧ Blk W (w.heap.size + 1) 24 (if d 3 = true then f1 else #[.int .i64 0, .int .i64 0]) ∧ W.ownsRow base 161 1 sl n cs ∧ Below w.heap.size w W
section
variable {H : Nat} {ht : TypeId} {hc r1 f1 : Array Value} {base : Nat} {sl : Value} {n : Nat} {cs : List Value} {w W W' : World} {d : Nat → Bool}
theorem MkCtx.also (h : MkCtx H ht hc r1 f1 base sl n cs w d W) (i : Nat) (h2 : i ≠ 2) (h3 : i ≠ 3) : MkCtx H ht hc r1 f1 base sl n cs w (also d i) W := by
  obtain ⟨a, b, c, e, f⟩ := h
  refine ⟨a, ?_, ?_, e, f⟩
  · rw [show Go.Proofs.YtejbigoacknfoaaGreatDoor.also d i 2 = d 2 by unfold Go.Proofs.YtejbigoacknfoaaGreatDoor.also; rw [if_neg h2]]; exact b
  · rw [show Go.Proofs.YtejbigoacknfoaaGreatDoor.also d i 3 = d 3 by unfold Go.Proofs.YtejbigoacknfoaaGreatDoor.also; rw [if_neg h3]]; exact c
theorem MkCtx.below (h : MkCtx H ht hc r1 f1 base sl n cs w d W) (hb : Below W.heap.size W W') : MkCtx H ht hc r1 f1 base sl n cs w d W' := by
  obtain ⟨a, b, c, e, f⟩ := h
  exact ⟨a.below hb, b.below hb, c.below hb, owns_below e hb, f.trans (hb.mono f.size)⟩
theorem blk_far {b b' : Nat} {t : TypeId} {cs : Array Value} (h : Blk W b' t cs) (i : Nat) (u : Value) (hn : b' ≠ b) : Blk (W.setCell ⟨b, i, none⟩ u) b' t cs := (Below.heap_setCell W ⟨b, i, none⟩ u b' hn).trans h
theorem MkCtx.res {a0 a1 a2 a3 : Value} (h : MkCtx H ht hc #[a0, a1, a2, a3] f1 base sl n cs w d W) (hd : d 2 = false) (hH : H ≠ w.heap.size) (hbase : w.heap.size < base) :
    MkCtx H ht hc #[a0, a1, a2, a3] f1 base sl n cs w (Go.Proofs.YtejbigoacknfoaaGreatDoor.also d 2) ((((W.setCell ⟨w.heap.size, 0, none⟩ a0).setCell ⟨w.heap.size, 1, none⟩ a1).setCell ⟨w.heap.size, 2, none⟩ a2).setCell ⟨w.heap.size, 3, none⟩ a3) := by
  obtain ⟨a, b, c, e, f⟩ := h
  rw [if_neg (by rw [hd]; simp)] at b
  have hF : w.heap.size + 1 ≠ w.heap.size := by omega
  refine ⟨blk_far (blk_far (blk_far (blk_far a 0 _ hH) 1 _ hH) 2 _ hH) 3 _ hH, ?_, ?_, owns_set (owns_set (owns_set (owns_set e hbase _) hbase _) hbase _) hbase _, below_setc (below_setc (below_setc (below_setc f (Nat.le_refl _) _ _) (Nat.le_refl _) _ _) (Nat.le_refl _) _ _) (Nat.le_refl _) _ _⟩
  · exact (((b.set 0 _).set 1 _).set 2 _).set 3 _
  · rw [show Go.Proofs.YtejbigoacknfoaaGreatDoor.also d 2 3 = d 3 from rfl]
    exact blk_far (blk_far (blk_far (blk_far c 0 _ hF) 1 _ hF) 2 _ hF) 3 _ hF
theorem MkCtx.flt {b0 b1 : Value} (h : MkCtx H ht hc r1 #[b0, b1] base sl n cs w d W) (hd : d 3 = false) (hH : H ≠ w.heap.size + 1) (hbase : w.heap.size + 1 < base) :
    MkCtx H ht hc r1 #[b0, b1] base sl n cs w (Go.Proofs.YtejbigoacknfoaaGreatDoor.also d 3) ((W.setCell ⟨w.heap.size + 1, 0, none⟩ b0).setCell ⟨w.heap.size + 1, 1, none⟩ b1) := by
  obtain ⟨a, b, c, e, f⟩ := h
  rw [if_neg (by rw [hd]; simp)] at c
  have hF : w.heap.size ≠ w.heap.size + 1 := by omega
  refine ⟨blk_far (blk_far a 0 _ hH) 1 _ hH, ?_, ?_, owns_set (owns_set e hbase _) hbase _, below_setc (below_setc f (by omega) _ _) (by omega) _ _⟩
  · rw [show Go.Proofs.YtejbigoacknfoaaGreatDoor.also d 3 2 = d 2 from rfl]
    exact blk_far (blk_far b 0 _ hF) 1 _ hF
  · exact (c.set 0 _).set 1 _
end
theorem below_ret {w W : World} {a0 a1 a2 a3 a4 a5 : Value} (h : Below w.heap.size w W) :
    Below w.heap.size w ((((((W.setCell ⟨w.heap.size, 0, none⟩ a0).setCell ⟨w.heap.size, 1, none⟩ a1).setCell ⟨w.heap.size, 2, none⟩ a2).setCell ⟨w.heap.size, 3, none⟩ a3).setCell ⟨w.heap.size + 1, 0, none⟩ a4).setCell ⟨w.heap.size + 1, 1, none⟩ a5) :=
  below_setc (below_setc (below_setc (below_setc (below_setc (below_setc h (Nat.le_refl _) _ _) (Nat.le_refl _) _ _) (Nat.le_refl _) _ _) (Nat.le_refl _) _ _) (by omega) _ _) (by omega) _ _
section
variable (op flags : Int) (nv vv : Value) (ns : List (List UInt8)) (vs : List Nat) (w : World) (h0 : -9223372036854775808 ≤ op) (h1 : op ≤ 9223372036854775807) (g0 : -9223372036854775808 ≤ flags) (g1 : flags ≤ 9223372036854775807)
  (hn : ns.length ≤ 60) (hm : vs.length ≤ 60) (hv : ∀ x ∈ vs, x ≤ 18446744073709551615) (hnl : ∀ s ∈ ns, s.length ≤ 9223372036854775807) (hns : Sl w nv 1 ns.length (strCells ns)) (hvs : Sl w vv 1 vs.length (u64Cells vs))
include h0 h1 g0 g1 hn hm hv hnl hns hvs
set_option maxHeartbeats 4000000 in
theorem rmake_any : Calls Tryz.prog 83 #[.int .i64 op, .int .i64 flags, nv, vv] w fun e w' => MakeRPost op flags (makeH op flags ns vs) w e w' := by
  have ck := fun w1 => hid (kind_any op w1)
  have cb := fun k w1 => hid (bareF_any k w1)
  have cg := fun w1 => hid (good_any w1)
  have ci := fun k pl w1 => hid (faultIs_any k pl w1)
  have c3 := fun v xs w1 hn hv (hsl : Sl w1 v 1 xs.length (u64Cells xs)) => hid (rright_any op false flags v xs w1 h0 h1 g0 g1 hn hv hsl)
  have C3 := hid c3
  unfold KindPost at ck
  have HNS := hid hns; have HVS := hid hvs
  obtain ⟨na, nc, rfl, _⟩ := hns
  obtain ⟨va, vc, rfl, _⟩ := hvs
  have Hv := hid hv; have Hnl := hid hnl
  clear c3 hv hnl
  have b1 := ((Below.refl w.heap.size w).alloc (Nat.le_refl _) (.cells #[.int .i64 0, .bool false, .int .i64 0, .slice none 0 0] 52)).alloc (by simp) (.cells #[.int .i64 0, .int .i64 0] 24)
  have B1 := (Blk.new w 52 #[.int .i64 0, .bool false, .int .i64 0, .slice none 0 0]).below ((Below.refl _ _).alloc (Nat.le_refl _) (.cells #[.int .i64 0, .int .i64 0] 24))
  have E1 := Blk.new (w.alloc (.cells #[.int .i64 0, .bool false, .int .i64 0, .slice none 0 0] 52)) 24 #[.int .i64 0, .int .i64 0]
  simp only [World.size_alloc] at E1
  cases hf : findH op with
  | none =>
    simp only [hf, hName, hFlags, hFields, Option.isSome_none] at ck
    have HRf := hid (show makeH op flags ns vs = (1, -1, []) by unfold makeH; rw [hf])
    go_enter Tryz.func83, Tryz.ntmps83
    go_wp2_with fail
    refine (ck _).out.mono ?_
    rintro e w2 ⟨fv, rfl, _, _, hb2⟩
    go_wp2_with fail
    refine (cb 1 _).out.mono ?_
    rintro e w3 ⟨rfl, hb3⟩
    have B3 := (B1.below hb2).below hb3
    have E3 := (E1.below hb2).below hb3
    have b2 := b1.trans (hb2.mono b1.size)
    have b3 := b2.trans (hb3.mono b2.size)
    have v0 := B3.free 0; have v1 := B3.free 1; have v2 := B3.free 2; have v3 := B3.free 3; have v4 := E3.free 0; have v5 := E3.free 1
    have t0 : World.cell? _ ⟨w.heap.size, 0, none⟩ = some (.int .i64 0) := (B3.cell 0).trans rfl
    have t1 : World.cell? _ ⟨w.heap.size, 1, none⟩ = some (.bool false) := (B3.cell 1).trans rfl
    have t2 : World.cell? _ ⟨w.heap.size, 2, none⟩ = some (.int .i64 0) := (B3.cell 2).trans rfl
    have t3 : World.cell? _ ⟨w.heap.size, 3, none⟩ = some (.slice none 0 0) := (B3.cell 3).trans rfl
    have t4 : World.cell? _ ⟨w.heap.size + 1, 0, none⟩ = some (.int .i64 0) := (E3.cell 0).trans rfl
    have t5 : World.cell? _ ⟨w.heap.size + 1, 1, none⟩ = some (.int .i64 0) := (E3.cell 1).trans rfl
    go_wp2
    refine bodyPost_ret (v := .tuple #[headV 0 false 0 (.slice none 0 0), .agg #[.int .i64 1, .int .i64 (-1)]]) (by simp [results, Tryz.results83, go_sem, t0, t1, t2, t3, t4, t5]; rfl) rfl ?_
    refine ⟨_, by rw [HRf.out]; rfl, by rw [HRf.out]; exact sl_nil _ _, ?_⟩
    exact below_ret b3
  | some r =>
    have hmem := findH_mem hf
    have hn0 := fields_pos r hmem
    have hnf := (head_fine r hmem).2.2.2.2.2.2.1
    have Hft := hid (head_fine r hmem).2.2.2.2.2.2.2
    have HR := hid (show makeH op flags ns vs = _ by unfold makeH; rw [hf])
    simp only [hf, hName, hFlags, hFields, Option.isSome_some] at ck
    have hmm := @run_makeMap Tryz.prog
    go_enter Tryz.func83, Tryz.ntmps83
    go_wp2_with fail
    refine (ck _).out.mono ?_
    rintro e w2 ⟨fv, rfl, hfs, _, hb2⟩
    have B2 := B1.below hb2
    have E2 := E1.below hb2
    have b2 := b1.trans (hb2.mono b1.size)
    obtain ⟨fb, fo, fc, rfl, hfb, hfc⟩ := fields_open hfs hn0
    have HFC := hid hfc
    have hlt2 := E2.lt
    have hA2 := (Below.refl w2.heap.size w2).alloc (Nat.le_refl _) (.map #[] 0)
    have NM := NameM.made w2
    have B4 := B2.below hA2
    have E4 := E2.below hA2
    have b4 := b2.trans (hA2.mono b2.size)
    clear hfc hfs ck B1 E1 b1 hb2 hf hmem
    go_wp2_with fail
    generalize hW5 : w2.alloc (.map #[] 0) = W5 at *
    have hs5 : W5.heap.size = w2.heap.size + 1 := by rw [← hW5]; simp
    clear hW5 hmm
    go_loopw [38] (fun i wr => RMkR r.fields vs ns w2.heap.size W5 i wr) (fun i _ => ns.length - (intOf i).toNat)
    case atStart => exact ⟨0, _, by omega, rfl, rfl, fun _ => by simp, NM, only_refl _ _⟩
    case round =>
      rename World => wo
      obtain ⟨k, g, hk, rfl, heq, hgb, hNM, hO⟩ := hrel
      have hsz := hO.size
      have hbw := below_only b4 hO b2.size b4.size
      have hBr := blk_only B4 hO (by omega)
      have hEr := blk_only E4 hO (by omega)
      by_cases hlt : k < ns.length
      · obtain ⟨n, hnk⟩ : ∃ n, ns[k]? = some n := ⟨ns[k], List.getElem?_eq_getElem hlt⟩
        have hnl := Hnl.out n (List.mem_of_getElem? hnk)
        rw [mkG_drop r.fields vs ns k g n hnk] at heq
        obtain ⟨nb, no, nc', hne, hnb, hnc⟩ := strs_open HNS.out (by omega)
        cases hne
        have hnb2 : nb < W5.heap.size := Nat.lt_of_lt_of_le hnb b4.size
        have z0 := ((grown_cell hO (p := ⟨nb, no + k, none⟩) hnb2 (by show nb ≠ _; omega)).trans (b4.cell (p := ⟨nb, no + k, none⟩) hnb)).trans (hnc k n hnk)
        have Heq := hid heq
        have Hgb := hid hgb
        clear heq hgb hnk hnc
        go_wp2
        go_loopw [17, 45] (fun a i wi => RMiR r.fields n wo a i wi) (fun _ i _ => r.fields.length - (intOf i).toNat)
        case atStart => exact ⟨0, by omega, rfl, rfl, Below.refl _ _⟩
        case round =>
          obtain ⟨j, hj, rfl, rfl, hbi⟩ := hrel
          have hsi := hbi.size
          by_cases hjl : j < r.fields.length
          · obtain ⟨f, hfk⟩ : ∃ f, r.fields[j]? = some f := ⟨r.fields[j], List.getElem?_eq_getElem hjl⟩
            obtain ⟨y0, y1, y2⟩ := HFC.out j f hfk
            have hfb5 : fb < W5.heap.size := by omega
            have hfbo : fb < wo.heap.size := by omega
            have hfv : fb ≠ w2.heap.size := by omega
            have y0 := (hbi.cell (p := ⟨fb, fo + j * 3, none⟩) hfbo).trans ((grown_cell hO (p := ⟨fb, fo + j * 3, none⟩) hfb5 hfv).trans ((hA2.cell (p := ⟨fb, fo + j * 3, none⟩) hfb).trans y0))
            have y1 := (hbi.cell (p := ⟨fb, fo + j * 3 + 1, none⟩) hfbo).trans ((grown_cell hO (p := ⟨fb, fo + j * 3 + 1, none⟩) hfb5 hfv).trans ((hA2.cell (p := ⟨fb, fo + j * 3 + 1, none⟩) hfb).trans y1))
            have y2 := (hbi.cell (p := ⟨fb, fo + j * 3 + 2, none⟩) hfbo).trans ((grown_cell hO (p := ⟨fb, fo + j * 3 + 2, none⟩) hfb5 hfv).trans ((hA2.cell (p := ⟨fb, fo + j * 3 + 2, none⟩) hfb).trans y2))
            have Hst := hid (hasN_step r.fields n j f hfk)
            have q8 : w.heap.size < wr.heap.size := by omega
            clear hfk
            cases hh : hasN r.fields n j with
            | true =>
              have Hat := hid (show hasN r.fields n (j + 1) = true by rw [Hst.out, hh]; rfl)
              clear hh
              go_wp2
              go_roundw
              case rel => exact ⟨j + 1, by omega, by go_num, by rw [Hat.out], hbi.alloc hsi _⟩
              case measure => simp [intOf]; omega
            | false =>
              have Hat := hid (show hasN r.fields n (j + 1) = decide (f.name = n) by rw [Hst.out, hh, Bool.false_or])
              have hbe : (f.name == n) = decide (f.name = n) := by
                by_cases h : f.name = n <;> simp [h]
              clear hh
              generalize decide (f.name = n) = q at *
              go_wp2
              go_roundw
              case rel => exact ⟨j + 1, by omega, by go_num, by rw [Hat.out], hbi.alloc hsi _⟩
              case measure => simp [intOf]; omega
          · obtain rfl : j = r.fields.length := by omega
            have hBr2 := hBr.below hbi
            have hEr2 := hEr.below hbi
            have hbw2 := hbw.trans (hbi.mono hbw.size)
            cases hh : hasN r.fields n r.fields.length with
            | false =>
              have HRf := hid (show makeH op flags ns vs = (5, -1, []) by
                rw [HR.out, Heq.out, if_pos hh]; rfl)
              clear hh
              go_wp2_with fail
              refine (cb 5 _).out.mono ?_
              rintro e w7 ⟨rfl, hb7⟩
              have B7 := hBr2.below hb7
              have E7 := hEr2.below hb7
              have b7 := hbw2.trans (hb7.mono hbw2.size)
              have v0 := B7.free 0; have v1 := B7.free 1; have v2 := B7.free 2; have v3 := B7.free 3; have v4 := E7.free 0; have v5 := E7.free 1
              have t0 : World.cell? _ ⟨w.heap.size, 0, none⟩ = some (.int .i64 0) := (B7.cell 0).trans rfl
              have t1 : World.cell? _ ⟨w.heap.size, 1, none⟩ = some (.bool false) := (B7.cell 1).trans rfl
              have t2 : World.cell? _ ⟨w.heap.size, 2, none⟩ = some (.int .i64 0) := (B7.cell 2).trans rfl
              have t3 : World.cell? _ ⟨w.heap.size, 3, none⟩ = some (.slice none 0 0) := (B7.cell 3).trans rfl
              have t4 : World.cell? _ ⟨w.heap.size + 1, 0, none⟩ = some (.int .i64 0) := (E7.cell 0).trans rfl
              have t5 : World.cell? _ ⟨w.heap.size + 1, 1, none⟩ = some (.int .i64 0) := (E7.cell 1).trans rfl
              go_wp2
              refine bodyPost_ret (v := .tuple #[headV 0 false 0 (.slice none 0 0), .agg #[.int .i64 5, .int .i64 (-1)]]) (by simp [results, Tryz.results83, go_sem, t0, t1, t2, t3, t4, t5]; rfl) rfl ?_
              refine ⟨_, by rw [HRf.out]; rfl, by rw [HRf.out]; exact sl_nil _ _, ?_⟩
              exact below_ret b7
            | true =>
              have heq2 := Heq.out
              rw [if_neg (by rw [hh]; simp)] at heq2
              have Heq2 := hid heq2; clear heq2 hh
              by_cases hkv : k < vs.length
              · obtain ⟨x, hx⟩ : ∃ x, vs[k]? = some x := ⟨vs[k], List.getElem?_eq_getElem hkv⟩
                obtain ⟨vb, vo, vc', hve, hvb, hvc⟩ := vals_open HVS.out (by omega)
                cases hve
                have hvb2 : vb < W5.heap.size := Nat.lt_of_lt_of_le hvb b4.size
                have zx := (hbi.cell (p := ⟨vb, vo + k, none⟩) (Nat.lt_of_lt_of_le hvb2 hsz)).trans (((grown_cell hO (p := ⟨vb, vo + k, none⟩) hvb2 (by show vb ≠ _; omega)).trans (b4.cell (p := ⟨vb, vo + k, none⟩) hvb)).trans (hvc k x hx))
                have hx64 := Hv.out x (List.mem_of_getElem? hx)
                have heq3 := Heq2.out
                rw [hx] at heq3
                have Heq3 := hid heq3; clear heq3
                have hd2 : decide ((vs.length : Int) ≤ (k : Int)) = false := decide_eq_false (by omega)
                obtain ⟨m1, q1, f1, g1'⟩ := NameM.put (hNM.below hbi) (by omega) n hnl x hx64
                have hg1 : W5.grownBy wr (some w2.heap.size) := only_trans hO ⟨hbi.os, hbi.tape, hbi.output, hbi.size, fun i hi _ => hbi.block i hi⟩
                have q9 : vb < wr.heap.size := by omega
                clear hx hvc
                go_wp2
                go_roundw
                case rel => exact ⟨k + 1, _, by omega, by go_num, Heq3.out, fun m => by
                    unfold setN
                    split
                    · exact hx64
                    · exact Hgb.out m, f1, only_trans hg1 g1'⟩
                case measure => simp [intOf]; omega
              · have HRf := hid (show makeH op flags ns vs = (7, -1, []) by
                  have h := Heq2.out
                  rw [List.getElem?_eq_none (by omega)] at h
                  rw [HR.out, h]; rfl)
                have hd2 : decide ((vs.length : Int) ≤ (k : Int)) = true := decide_eq_true (by omega)
                go_wp2_with fail
                refine (cb 7 _).out.mono ?_
                rintro e w7 ⟨rfl, hb7⟩
                have B7 := hBr2.below hb7
                have E7 := hEr2.below hb7
                have b7 := hbw2.trans (hb7.mono hbw2.size)
                have v0 := B7.free 0; have v1 := B7.free 1; have v2 := B7.free 2; have v3 := B7.free 3; have v4 := E7.free 0; have v5 := E7.free 1
                have t0 : World.cell? _ ⟨w.heap.size, 0, none⟩ = some (.int .i64 0) := (B7.cell 0).trans rfl
                have t1 : World.cell? _ ⟨w.heap.size, 1, none⟩ = some (.bool false) := (B7.cell 1).trans rfl
                have t2 : World.cell? _ ⟨w.heap.size, 2, none⟩ = some (.int .i64 0) := (B7.cell 2).trans rfl
                have t3 : World.cell? _ ⟨w.heap.size, 3, none⟩ = some (.slice none 0 0) := (B7.cell 3).trans rfl
                have t4 : World.cell? _ ⟨w.heap.size + 1, 0, none⟩ = some (.int .i64 0) := (E7.cell 0).trans rfl
                have t5 : World.cell? _ ⟨w.heap.size + 1, 1, none⟩ = some (.int .i64 0) := (E7.cell 1).trans rfl
                go_wp2
                refine bodyPost_ret (v := .tuple #[headV 0 false 0 (.slice none 0 0), .agg #[.int .i64 7, .int .i64 (-1)]]) (by simp [results, Tryz.results83, go_sem, t0, t1, t2, t3, t4, t5]; rfl) rfl ?_
                refine ⟨_, by rw [HRf.out]; rfl, by rw [HRf.out]; exact sl_nil _ _, ?_⟩
                exact below_ret b7
      · obtain rfl : k = ns.length := by omega
        rw [mkG_end r.fields vs ns _ g (Nat.le_refl _)] at heq
        have HRx := hid (show makeH op flags ns vs = if (rightH op false flags (r.fields.map fun f => g f.name)).1 ≠ 0 then ((rightH op false flags (r.fields.map fun f => g f.name)).1, (rightH op false flags (r.fields.map fun f => g f.name)).2, []) else (0, -1, r.fields.map fun f => g f.name) by
          rw [HR.out, heq]; rfl)
        have hvl : (r.fields.map fun f => g f.name).length = r.fields.length := by simp
        have hvb : ∀ x ∈ r.fields.map (fun f => g f.name), x ≤ 18446744073709551615 := by
          intro x hx
          obtain ⟨f, _, rfl⟩ := List.mem_map.1 hx
          exact hgb _
        have hxk : ∀ (j : Nat) (f : FR), r.fields[j]? = some f → (r.fields.map fun f => g f.name)[j]? = some (g f.name) := fun j f h => by rw [List.getElem?_map, h]; rfl
        have Hxk := hid hxk; have Hvb := hid hvb; have HNM := hid hNM
        clear hxk hvb heq hNM hgb
        generalize r.fields.map (fun f => g f.name) = xs at *
        have BH := Blk.new wo 52 #[.int .i64 op, .bool false, .int .i64 flags, .slice none 0 0]
        have hA6 := (Below.refl wo.heap.size wo).alloc (Nat.le_refl _) (.cells #[.int .i64 op, .bool false, .int .i64 flags, .slice none 0 0] 52)
        have b6 := hbw.trans (hA6.mono hbw.size)
        have hBr6 := hBr.below hA6
        have hEr6 := hEr.below hA6
        have HNM6 := hid (MapAs.below HNM.out hA6)
        have HFC6 := hid (show ∀ (k : Nat) (f : FR), r.fields[k]? = some f → _ from fun k f h => by
          obtain ⟨y0, y1, y2⟩ := HFC.out k f h
          have hfb5 : fb < W5.heap.size := by omega
          have hfbo : fb < wo.heap.size := by omega
          have hfv : fb ≠ w2.heap.size := by omega
          exact And.intro ((hA6.cell (p := ⟨fb, fo + k * 3, none⟩) hfbo).trans ((grown_cell hO (p := ⟨fb, fo + k * 3, none⟩) hfb5 hfv).trans ((hA2.cell (p := ⟨fb, fo + k * 3, none⟩) hfb).trans y0)))
            (And.intro ((hA6.cell (p := ⟨fb, fo + k * 3 + 1, none⟩) hfbo).trans ((grown_cell hO (p := ⟨fb, fo + k * 3 + 1, none⟩) hfb5 hfv).trans ((hA2.cell (p := ⟨fb, fo + k * 3 + 1, none⟩) hfb).trans y1)))
              ((hA6.cell (p := ⟨fb, fo + k * 3 + 2, none⟩) hfbo).trans ((grown_cell hO (p := ⟨fb, fo + k * 3 + 2, none⟩) hfb5 hfv).trans ((hA2.cell (p := ⟨fb, fo + k * 3 + 2, none⟩) hfb).trans y2)))))
        have hfbo : fb < wo.heap.size := by omega
        have hM6 : w2.heap.size < wo.heap.size := by omega
        go_wp2_with fail
        generalize hW6 : wo.alloc (.cells #[.int .i64 op, .bool false, .int .i64 flags, .slice none 0 0] 52) = W6 at *
        have hs6 : W6.heap.size = wo.heap.size + 1 := by rw [← hW6]; simp
        have hlt6 := BH.lt
        clear hW6
        go_loopw [79] (fun i wr => RMv op flags xs wo.heap.size w W6 i wr) (fun i _ => xs.length - (intOf i).toNat)
        case atStart => exact ⟨0, _, by omega, rfl, BH, World.ownsRow_nil _ _ _ _, KeepBut.refl _ _, b6⟩
        case round =>
          obtain ⟨k, v, hk, rfl, hB, hown, hKp, hb⟩ := hrel
          have hs4 := hKp.size
          by_cases hlt : k < xs.length
          · obtain ⟨f, hfk⟩ : ∃ f, r.fields[k]? = some f := ⟨r.fields[k]'(by omega), List.getElem?_eq_getElem _⟩
            have hkf : k < r.fields.length := by omega
            have hxk := Hxk.out k f hfk
            have hfn : f.name.length ≤ 9223372036854775807 := by
              have h1 := (Hft.out f (List.mem_of_getElem? hfk)).2.1
              unfold FR.text at h1
              simp at h1
              omega
            have hx64 := Hvb.out _ (List.mem_of_getElem? hxk)
            have Hn := hid (u64_snoc xs k _ hxk)
            obtain ⟨y0, y1, y2⟩ := HFC6.out k f hfk
            have y0 := (hKp.cell (p := ⟨fb, fo + k * 3, none⟩) (by show fb < _; omega) (by show fb ≠ _; omega)).trans y0
            have y1 := (hKp.cell (p := ⟨fb, fo + k * 3 + 1, none⟩) (by show fb < _; omega) (by show fb ≠ _; omega)).trans y1
            have y2 := (hKp.cell (p := ⟨fb, fo + k * 3 + 2, none⟩) (by show fb < _; omega) (by show fb ≠ _; omega)).trans y2
            have hA := (Below.refl wr.heap.size wr).alloc (Nat.le_refl _) (.cells #[.string (bs f.name), .int .i64 (f.at_ : Int), .int .i64 (f.size : Int)] 220)
            have hNM2 : NameM (wr.alloc (.cells #[.string (bs f.name), .int .i64 (f.at_ : Int), .int .i64 (f.size : Int)] 220)) w2.heap.size ns.length g := (HNM6.out.same (hKp.keep _ (by omega) (by omega))).below hA
            have hlk := hNM2.look f.name hfn
            clear hxk hfk
            generalize g f.name = x at *
            generalize u64Cells (xs.take k) = cs at *
            have hB2 := hB.below hA
            have hK2 := hKp.below hA
            have hO2 := owns_below hown hA
            have hbA := hb.trans (hA.mono hb.size)
            have t3 : (wr.alloc (.cells #[.string (bs f.name), .int .i64 (f.at_ : Int), .int .i64 (f.size : Int)] 220)).cell? ⟨wo.heap.size, 3, none⟩ = some v := (hB2.cell 3).trans rfl
            have hA3 := (Below.refl (wr.alloc (.cells #[.string (bs f.name), .int .i64 (f.at_ : Int), .int .i64 (f.size : Int)] 220)).heap.size (wr.alloc (.cells #[.string (bs f.name), .int .i64 (f.at_ : Int), .int .i64 (f.size : Int)] 220))).alloc (Nat.le_refl _) (.cells #[.int .u64 (x : Nat)] 161)
            have hB3 := hB2.below hA3
            have hK3 := hK2.below hA3
            have hO3 := owns_below hO2 hA3
            have hb3 := hbA.trans (hA3.mono hbA.size)
            have q8 := hB.lt
            go_wp2_with (at_builtin; refine list_append_own rfl (.tmp 84) (.tmp 89) 50 rfl W6.heap.size 161 (.int .u64 0) 1 8 Tryz.underlying50 infoU64 rfl (by decide) v k cs rfl hO3 ⟨wr.heap.size + 1, 0, none⟩ 1 1 [.int .u64 (x : Nat)] rfl rfl (by intro j u hu; (have hj : j = 0 := by (have := (List.getElem?_eq_some_iff.1 hu).1; simp at this; exact this)); subst hj; simp at hu; subst hu; rw [show (⟨wr.heap.size + 1, 0, none⟩ : Addr).add 0 = ⟨wr.heap.size + 1, 0, none⟩ from rfl, ← World.size_alloc wr (.cells #[.string (bs f.name), .int .i64 (f.at_ : Int), .int .i64 (f.size : Int)] 220), cell_of_row _ _ _ _ _ _ (heap_alloc_new _ _)]; rfl) (by simp [Value.oneCell']) (by unfold maxLen; omega) (by omega) (by simp; omega) ?_; intro v' w5 hown5 hgrow _; obtain ⟨sa', sc', rfl⟩ := own_sl hown5; have hB5 := hB3.grown hO3 hgrow hlt6; have hK5 := hK3.grown hO3 hgrow; have u3 : w5.cell? ⟨wo.heap.size, 3, none⟩ = some v := (hB5.cell 3).trans rfl; have f3 := hB5.free 3)
            go_roundw
            case rel => exact ⟨k + 1, _, by omega, by go_num, hB5.set 3 _, by rw [Hn.out]; exact owns_set hown5 hlt6 _, hK5.set 3 _, below_setc (below_append hb3 (owns_base hO3 (by omega)) hgrow (by simp; omega)) (by omega) _ _⟩
            case measure => simp [intOf]; omega
          · obtain rfl : k = xs.length := by omega
            obtain ⟨va', vc', rfl⟩ := own_sl hown
            rw [List.take_length] at hown
            rw [hvl] at hown hB
            have HO := hid hown
            have hsl := sl_of_owns hown
            have d3 := (C3.out (.slice va' r.fields.length vc') xs wr (by omega) Hvb.out (by rw [hvl]; exact hsl)).out
            unfold RRightPost at d3
            unfold headV at d3
            have D3 := hid d3
            have HBr := hid (keep_blk hKp hBr6 (by omega))
            have HEr := hid (keep_blk hKp hEr6 (by omega))
            have p0 : wr.cell? ⟨wo.heap.size, 0, none⟩ = some (.int .i64 op) := (hB.cell 0).trans rfl
            have p1 : wr.cell? ⟨wo.heap.size, 1, none⟩ = some (.bool false) := (hB.cell 1).trans rfl
            have p2 : wr.cell? ⟨wo.heap.size, 2, none⟩ = some (.int .i64 flags) := (hB.cell 2).trans rfl
            have p3 : wr.cell? ⟨wo.heap.size, 3, none⟩ = some (.slice va' r.fields.length vc') := (hB.cell 3).trans rfl
            clear d3 hsl hown
            go_wp2_with fail
            refine D3.out.mono ?_
            generalize rightH op false flags xs = rh at *
            obtain ⟨y1, y2⟩ := rh
            rintro e W7 ⟨rfl, hb7⟩
            unfold faultV
            have F8 := Blk.new W7 24 #[.int .i64 (y1 : Nat), .int .i64 y2]
            have hA8 := (Below.refl W7.heap.size W7).alloc (Nat.le_refl _) (.cells #[.int .i64 (y1 : Nat), .int .i64 y2] 24)
            have hb8 := hb7.trans (hA8.mono hb7.size)
            go_wp2_with fail
            refine (ci y1 y2 _).out.mono ?_
            rintro e W9 ⟨rfl, hb9⟩
            have F9 := F8.below hb9
            have hb89 := hb8.trans (hb9.mono hb8.size)
            have hBr9 := HBr.out.below hb89
            have hEr9 := HEr.out.below hb89
            have hB9 := hB.below hb89
            have hO9 := owns_below HO.out hb89
            have b9 := hb.trans (hb89.mono hb.size)
            by_cases hk0 : y1 = 0
            · have HRf := hid (show makeH op flags ns vs = (0, -1, xs) by rw [HRx.out, if_neg (by simp [hk0])])
              subst hk0
              have hW7s : wo.heap.size < W7.heap.size := by have := hb7.size; omega
              go_wp2_with fail
              have hmx : Tryz.prog.follows .mixedOrders = true := by kernel_rfl
              refine wpIn_wide (n := 4).1 ?_
              refine region_done (aF := ?kA1) [(100, .agg #[.int .i64 op, .bool false, .int .i64 flags, .slice va' r.fields.length vc']), (101, .agg #[.int .i64 0, .int .i64 (-1)])] (MkCtx wo.heap.size 52 (HC op false flags (.slice va' r.fields.length vc')) #[.int .i64 op, .bool false, .int .i64 flags, .slice va' r.fields.length vc'] #[.int .i64 0, .int .i64 (-1)] W6.heap.size (.slice va' r.fields.length vc') r.fields.length (u64Cells xs) w) ?kB1 hmx (by kernel_rfl) (by kernel_rfl) ?kE1 ?kC1 ?kD1
              case kB1 =>
                simp only [putAll, List.foldl_cons, List.foldl_nil, List.setIfInBounds_toArray, List.set_cons_zero, List.set_cons_succ]
                exact rfl
              case kE1 => exact ⟨hB9, hBr9, hEr9, hO9.drew, b9.drew⟩
              case kC1 =>
                refine ⟨?_, ?_, ?_, ?_, trivial⟩
                all_goals refine ⟨fun d hd => by simp at hd <;> (subst hd; simp), fun d W h hd0 => ⟨?_, ?_⟩⟩
                all_goals first
                  | (simp [go_sem, Oper.about]; done)
                  | (simp [go_sem, Oper.about]; exact trivial)
                  | skip
                · have t0 : W.cell? ⟨wo.heap.size, 0, none⟩ = some (.int .i64 op) := (h.1.cell 0).trans rfl
                  have t1 : W.cell? ⟨wo.heap.size, 1, none⟩ = some (.bool false) := (h.1.cell 1).trans rfl
                  have t2 : W.cell? ⟨wo.heap.size, 2, none⟩ = some (.int .i64 flags) := (h.1.cell 2).trans rfl
                  have t3 : W.cell? ⟨wo.heap.size, 3, none⟩ = some (.slice va' r.fields.length vc') := (h.1.cell 3).trans rfl
                  simp [OpInv, go_sem, t0, t1, t2, t3]
                  exact h.also 0 (by omega) (by omega)
                · simp [OpInv, go_sem]
                  refine callsIn_wide.2 ((cg W).out.mono ?_)
                  rintro e w5 ⟨rfl, hb⟩
                  exact ⟨_, rfl, rfl, (h.also 1 (by omega) (by omega)).below hb⟩
                · have hz := h.2.1
                  rw [if_neg (by rw [hd0]; simp)] at hz
                  have v0 := hz.free 0; have v1 := hz.free 1; have v2 := hz.free 2; have v3 := hz.free 3
                  have t0 : W.cell? ⟨w.heap.size, 0, none⟩ = some (.int .i64 0) := (hz.cell 0).trans rfl
                  have t1 : W.cell? ⟨w.heap.size, 1, none⟩ = some (.bool false) := (hz.cell 1).trans rfl
                  have t2 : W.cell? ⟨w.heap.size, 2, none⟩ = some (.int .i64 0) := (hz.cell 2).trans rfl
                  have t3 : W.cell? ⟨w.heap.size, 3, none⟩ = some (.slice none 0 0) := (hz.cell 3).trans rfl
                  have h2 := h.res hd0 (by omega) (by omega)
                  simp [OpInv, go_sem, t0, t1, t2, t3, v0, v1, v2, v3]
                  exact h2
                · have hz := h.2.2.1
                  rw [if_neg (by rw [hd0]; simp)] at hz
                  have v0 := hz.free 0; have v1 := hz.free 1
                  have t0 : W.cell? ⟨w.heap.size + 1, 0, none⟩ = some (.int .i64 0) := (hz.cell 0).trans rfl
                  have t1 : W.cell? ⟨w.heap.size + 1, 1, none⟩ = some (.int .i64 0) := (hz.cell 1).trans rfl
                  have h2 := h.flt hd0 (by omega) (by omega)
                  simp [OpInv, go_sem, t0, t1, v0, v1]
                  exact h2
              case kD1 =>
                intro d W hall hW
                obtain ⟨_, hR, hF, hOW, hbW⟩ := hW
                rw [hall 2 (by simp), if_pos rfl] at hR
                rw [hall 3 (by simp), if_pos rfl] at hF
                have t0 : W.cell? ⟨w.heap.size, 0, none⟩ = some (.int .i64 op) := (hR.cell 0).trans rfl
                have t1 : W.cell? ⟨w.heap.size, 1, none⟩ = some (.bool false) := (hR.cell 1).trans rfl
                have t2 : W.cell? ⟨w.heap.size, 2, none⟩ = some (.int .i64 flags) := (hR.cell 2).trans rfl
                have t3 : W.cell? ⟨w.heap.size, 3, none⟩ = some (.slice va' r.fields.length vc') := (hR.cell 3).trans rfl
                have t4 : W.cell? ⟨w.heap.size + 1, 0, none⟩ = some (.int .i64 0) := (hF.cell 0).trans rfl
                have t5 : W.cell? ⟨w.heap.size + 1, 1, none⟩ = some (.int .i64 (-1)) := (hF.cell 1).trans rfl
                gi_wp2
                go_wp2
                refine bodyPost_ret (v := .tuple #[headV op false flags (.slice va' r.fields.length vc'), .agg #[.int .i64 0, .int .i64 (-1)]]) (by simp [results, Tryz.results83, go_sem, t0, t1, t2, t3, t4, t5]; rfl) rfl ?_
                exact ⟨_, by rw [HRf.out, if_pos rfl, if_pos rfl]; rfl, by rw [HRf.out]; rw [show xs.length = r.fields.length from hvl]; exact sl_of_owns hOW, hbW⟩
            · have HRf := hid (show makeH op flags ns vs = (y1, y2, []) by rw [HRx.out, if_pos hk0])
              have hzd : decide (y1 = 0) = false := by simpa using hk0
              have hW7s : wo.heap.size < W7.heap.size := by have := hb7.size; omega
              rw [hzd]
              go_wp2_with fail
              have hmx : Tryz.prog.follows .mixedOrders = true := by kernel_rfl
              refine wpIn_wide (n := 4).1 ?_
              refine region_done (aF := ?kA2) [(98, .agg #[.int .i64 0, .bool false, .int .i64 0, .slice none 0 0]), (99, .agg #[.int .i64 (y1 : Nat), .int .i64 y2])] (MkCtx W7.heap.size 24 #[.int .i64 (y1 : Nat), .int .i64 y2] #[.int .i64 0, .bool false, .int .i64 0, .slice none 0 0] #[.int .i64 (y1 : Nat), .int .i64 y2] W6.heap.size (.slice va' r.fields.length vc') r.fields.length (u64Cells xs) w) ?kB2 hmx (by kernel_rfl) (by kernel_rfl) ?kE2 ?kC2 ?kD2
              case kB2 =>
                simp only [putAll, List.foldl_cons, List.foldl_nil, List.setIfInBounds_toArray, List.set_cons_zero, List.set_cons_succ]
                exact rfl
              case kE2 => exact ⟨F9, hBr9, hEr9, hO9.drew, b9.drew⟩
              case kC2 =>
                refine ⟨?_, ?_, ?_, ?_, trivial⟩
                all_goals refine ⟨fun d hd => by simp at hd <;> (subst hd; simp), fun d W h hd0 => ⟨?_, ?_⟩⟩
                all_goals first
                  | (simp [go_sem, Oper.about]; done)
                  | (simp [go_sem, Oper.about]; exact trivial)
                  | skip
                · simp [OpInv, go_sem]
                  exact h.also 0 (by omega) (by omega)
                · have t0 : W.cell? ⟨W7.heap.size, 0, none⟩ = some (.int .i64 (y1 : Nat)) := (h.1.cell 0).trans rfl
                  have t1 : W.cell? ⟨W7.heap.size, 1, none⟩ = some (.int .i64 y2) := (h.1.cell 1).trans rfl
                  simp [OpInv, go_sem, t0, t1]
                  exact h.also 1 (by omega) (by omega)
                · have hz := h.2.1
                  rw [if_neg (by rw [hd0]; simp)] at hz
                  have v0 := hz.free 0; have v1 := hz.free 1; have v2 := hz.free 2; have v3 := hz.free 3
                  have t0 : W.cell? ⟨w.heap.size, 0, none⟩ = some (.int .i64 0) := (hz.cell 0).trans rfl
                  have t1 : W.cell? ⟨w.heap.size, 1, none⟩ = some (.bool false) := (hz.cell 1).trans rfl
                  have t2 : W.cell? ⟨w.heap.size, 2, none⟩ = some (.int .i64 0) := (hz.cell 2).trans rfl
                  have t3 : W.cell? ⟨w.heap.size, 3, none⟩ = some (.slice none 0 0) := (hz.cell 3).trans rfl
                  have h2 := h.res hd0 (by omega) (by omega)
                  simp [OpInv, go_sem, t0, t1, t2, t3, v0, v1, v2, v3]
                  exact h2
                · have hz := h.2.2.1
                  rw [if_neg (by rw [hd0]; simp)] at hz
                  have v0 := hz.free 0; have v1 := hz.free 1
                  have t0 : W.cell? ⟨w.heap.size + 1, 0, none⟩ = some (.int .i64 0) := (hz.cell 0).trans rfl
                  have t1 : W.cell? ⟨w.heap.size + 1, 1, none⟩ = some (.int .i64 0) := (hz.cell 1).trans rfl
                  have h2 := h.flt hd0 (by omega) (by omega)
                  simp [OpInv, go_sem, t0, t1, v0, v1]
                  exact h2
              case kD2 =>
                intro d W hall hW
                obtain ⟨_, hR, hF, hOW, hbW⟩ := hW
                rw [hall 2 (by simp), if_pos rfl] at hR
                rw [hall 3 (by simp), if_pos rfl] at hF
                have t0 : W.cell? ⟨w.heap.size, 0, none⟩ = some (.int .i64 0) := (hR.cell 0).trans rfl
                have t1 : W.cell? ⟨w.heap.size, 1, none⟩ = some (.bool false) := (hR.cell 1).trans rfl
                have t2 : W.cell? ⟨w.heap.size, 2, none⟩ = some (.int .i64 0) := (hR.cell 2).trans rfl
                have t3 : W.cell? ⟨w.heap.size, 3, none⟩ = some (.slice none 0 0) := (hR.cell 3).trans rfl
                have t4 : W.cell? ⟨w.heap.size + 1, 0, none⟩ = some (.int .i64 (y1 : Nat)) := (hF.cell 0).trans rfl
                have t5 : W.cell? ⟨w.heap.size + 1, 1, none⟩ = some (.int .i64 y2) := (hF.cell 1).trans rfl
                gi_wp2
                go_wp2
                refine bodyPost_ret (v := .tuple #[headV 0 false 0 (.slice none 0 0), .agg #[.int .i64 (y1 : Nat), .int .i64 y2]]) (by simp [results, Tryz.results83, go_sem, t0, t1, t2, t3, t4, t5]; rfl) rfl ?_
                exact ⟨_, by rw [HRf.out, if_neg hk0, if_neg hk0]; rfl, by rw [HRf.out]; exact sl_nil _ _, hbW⟩
end
end Go.Proofs.YtejbigoacknfoaaGreatDoor
