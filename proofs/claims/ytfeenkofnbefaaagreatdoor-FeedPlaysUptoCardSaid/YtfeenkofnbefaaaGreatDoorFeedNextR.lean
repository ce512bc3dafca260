/- The next PDU out of a feed: by the document. -/
import Derived.Test.YtfeenkofnbefaaaGreatDoorFeedNext
import Derived.Test.YtfeenkofnbefaaaGreatDoorPduRdR
set_option linter.unusedSectionVars false
set_option linter.unusedSimpArgs false
set_option linter.unusedVariables false
namespace Go.Proofs.YtfeenkofnbefaaaGreatDoor
open Go Go.RowKit
set_option linter.unusedVariables false
set_option linter.unusedSectionVars false
set_option linter.unusedSimpArgs false
set_option maxRecDepth 100000
/-- block g is the document's feed -/
def RFeedB (w : World) (g : Nat) (kept : List UInt8) (limit : Nat) (mode : Int) (bad : Nat) : Prop :=
  Blk w g 34 #[.string (bs kept), .int .i64 (limit : Int), .int .i64 mode, .bool (bad != 0)]
def RNextPost (R : FdR) (g limit : Nat) (mode : Int) (w : World) (e : Ending) (w' : World) : Prop :=
  ∃ v av, e = .returned (.tuple #[pieceV R.pdu.op R.pdu.now R.pdu.flags v av R.pdu.data R.spoilt, .bool R.ok, .int .i64 (R.e : Nat)]) ∧ Sl w' v 1 R.pdu.vals.length (u64Cells R.pdu.vals) ∧ Sl w' av 2 R.pdu.ahs.length (ahsCells R.pdu.ahs) ∧ RFeedB w' g R.kept limit mode R.bad ∧ w.grownBy w' (some g)
theorem rfeed_nou (s : ByteArray) (a b : Int) (q : Bool) : ∀ (i : Nat) (x : Int), (#[.string s, .int .i64 a, .int .i64 b, .bool q] : Array Value)[i]? ≠ some (Value.int .u64 x) := by
  intro i x h
  rcases i with _ | _ | _ | _ | i <;> simp at h
theorem rfeed_noa (s : ByteArray) (a b : Int) (q : Bool) : ∀ (i : Nat) (x : Int) (s' : ByteArray), (#[.string s, .int .i64 a, .int .i64 b, .bool q] : Array Value)[i]? = some (Value.int .i64 x) → (#[.string s, .int .i64 a, .int .i64 b, .bool q] : Array Value)[i + 1]? ≠ some (Value.string s') := by
  intro i x s' h h2
  rcases i with _ | _ | _ | _ | i <;> simp at h h2
/-- the cells of a piece are laid; another block stays -/
theorem piece_layB {w W : World} {g r : Nat} {t tg : TypeId} {cg : Array Value} {op : Int} {now : Bool} {fl : Int} {sa aa : Option Addr} {n c m k : Nat} {d s : List UInt8} (B : Blk W r t (pieceC op now fl (.slice sa n c) (.slice aa m k) d s)) (hr : w.heap.size ≤ r) (hg : g < w.heap.size)
    (hF : Blk W g tg cg) (hG : w.grownBy W (some g)) (x0 x1 x2 x3 x4 x5 x6 : Value) :
    ∃ W', ((((((W.setCell ⟨r, 0, none⟩ x0).setCell ⟨r, 1, none⟩ x1).setCell ⟨r, 2, none⟩ x2).setCell ⟨r, 3, none⟩ x3).setCell ⟨r, 4, none⟩ x4).setCell ⟨r, 5, none⟩ x5).setCell ⟨r, 6, none⟩ x6 = W' ∧
      Blk W' r t #[x0, x1, x2, x3, x4, x5, x6] ∧ Blk W' g tg cg ∧ w.grownBy W' (some g) ∧
      (∀ v xs, Sl W v 1 xs.length (u64Cells xs) → Sl W' v 1 xs.length (u64Cells xs)) ∧ (∀ v xs, Sl W v 2 xs.length (ahsCells xs) → Sl W' v 2 xs.length (ahsCells xs)) := by
  have hne : g ≠ r := by omega
  have gr : ∀ {A : World} (i : Nat) (u : Value), w.grownBy A (some g) → w.grownBy (A.setCell ⟨r, i, none⟩ u) (some g) := fun {A} i u h =>
    ⟨h.os, h.tape, h.output, by simpa [World.setCell] using h.size, fun q hq hqn => (Below.heap_setCell A ⟨r, i, none⟩ u q (by simp only; omega)).trans (h.block q hq hqn)⟩
  refine ⟨_, rfl, ?_, ?_, ?_, ?_, ?_⟩
  · have := ((((((B.set 0 x0).set 1 x1).set 2 x2).set 3 x3).set 4 x4).set 5 x5).set 6 x6
    simpa [pieceC] using this
  · exact blk_off (blk_off (blk_off (blk_off (blk_off (blk_off (blk_off hF 0 x0 hne) 1 x1 hne) 2 x2 hne) 3 x3 hne) 4 x4 hne) 5 x5 hne) 6 x6 hne
  · exact gr 6 x6 (gr 5 x5 (gr 4 x4 (gr 3 x3 (gr 2 x2 (gr 1 x1 (gr 0 x0 hG))))))
  · intro v xs hv
    have hd := u64_far hv B (piece_nou _ _ _ _ _ _ _ _ _ _ _)
    exact sl_set (sl_set (sl_set (sl_set (sl_set (sl_set (sl_set hv r 0 x0 hd) r 1 x1 hd) r 2 x2 hd) r 3 x3 hd) r 4 x4 hd) r 5 x5 hd) r 6 x6 hd
  · intro v xs hv
    have hd := ahs_far' hv B (piece_noa _ _ _ _ _ _ _ _ _ _ _)
    exact sl_set (sl_set (sl_set (sl_set (sl_set (sl_set (sl_set hv r 0 x0 hd) r 1 x1 hd) r 2 x2 hd) r 3 x3 hd) r 4 x4 hd) r 5 x5 hd) r 6 x6 hd
section
variable (g limit : Nat) (mode : Int) (kept : List UInt8) (bad : Nat) (w : World) (hB : RFeedB w g kept limit mode bad) (hl : kept.length ≤ 1000000) (hm : 0 ≤ mode ∧ mode ≤ 3) (hlim : limit ≤ 100000)
include hB hl hm hlim
set_option maxHeartbeats 8000000 in
theorem rnext_any : Calls Tryz.prog 13 #[.pointer (some ⟨g, 0, none⟩)] w fun e w' => RNextPost (feedP kept limit mode bad) g limit mode w e w' := by
  have hgw : g < w.heap.size := Blk.lt hB
  have hA := (Below.refl w.heap.size w).alloc (Nat.le_refl _) (.cells #[.int .i64 0, .bool false, .int .i64 0, .slice none 0 0, .slice none 0 0, .string ⟨#[]⟩, .string ⟨#[]⟩] 42)
  have R1 := Blk.new w 42 #[.int .i64 0, .bool false, .int .i64 0, .slice none 0 0, .slice none 0 0, .string ⟨#[]⟩, .string ⟨#[]⟩]
  have B1 := Blk.below hB hA
  have G1 := World.grownBy_alloc w (.cells #[.int .i64 0, .bool false, .int .i64 0, .slice none 0 0, .slice none 0 0, .string ⟨#[]⟩, .string ⟨#[]⟩] 42) (some g)
  have c0 := (Blk.cell hB 0).trans (rfl : _ = some (Value.string (bs kept)))
  have c1 := (Blk.cell hB 1).trans (rfl : _ = some (Value.int .i64 (limit : Int)))
  have c3 := (Blk.cell hB 3).trans (rfl : _ = some (Value.bool (bad != 0)))
  by_cases h1 : bad ≠ 0 ∨ kept.length < 48
  · have hR := feedP_bad (limit := limit) (mode := mode) h1
    have hE : RNextPost (feedP kept limit mode bad) g limit mode w (.returned (.tuple #[pieceV 0 false 0 (.slice none 0 0) (.slice none 0 0) [] [], .bool false, .int .i64 0])) (w.alloc (.cells #[.int .i64 0, .bool false, .int .i64 0, .slice none 0 0, .slice none 0 0, .string ⟨#[]⟩, .string ⟨#[]⟩] 42)) := by
      rw [hR]
      exact ⟨_, _, rfl, sl_nil _ _, sl_nil _ _, B1, G1⟩
    have H := hid hB; clear hB
    generalize feedP kept limit mode bad = R at *
    have HE := hid hE; have HR := hid R1
    clear hA R1 B1 G1 hE hR
    by_cases hb : bad = 0
    · subst hb
      have h48 : kept.length < 48 := by omega
      have hd : decide ((kept.length : Int) < 48) = true := decide_eq_true (by omega)
      have c3 := c3.trans (rfl : _ = some (Value.bool false))
      clear h1
      go_enter Tryz.func13, Tryz.ntmps13
      go_wp2
      have T0 := HR.out
      have t0 := (T0.cell 0).trans (rfl : _ = some (Value.int .i64 0))
      have t1 := (T0.cell 1).trans (rfl : _ = some (Value.bool false))
      have t2 := (T0.cell 2).trans (rfl : _ = some (Value.int .i64 0))
      have t3 := (T0.cell 3).trans (rfl : _ = some (Value.slice none 0 0))
      have t4 := (T0.cell 4).trans (rfl : _ = some (Value.slice none 0 0))
      have t5 := (T0.cell 5).trans (rfl : _ = some (Value.string ⟨#[]⟩))
      have t6 := (T0.cell 6).trans (rfl : _ = some (Value.string ⟨#[]⟩))
      clear T0
      refine bodyPost_ret (v := .tuple #[pieceV 0 false 0 (.slice none 0 0) (.slice none 0 0) [] [], .bool false, .int .i64 0]) (by simp [results, Tryz.results13, go_sem, pieceV, t0, t1, t2, t3, t4, t5, t6]; first | done | rfl) rfl ?_
      exact HE.out
    · have hbt : (bad != 0) = true := by simpa using hb
      rw [hbt] at c3
      clear h1
      go_enter Tryz.func13, Tryz.ntmps13
      go_wp2
      have T0 := HR.out
      have t0 := (T0.cell 0).trans (rfl : _ = some (Value.int .i64 0))
      have t1 := (T0.cell 1).trans (rfl : _ = some (Value.bool false))
      have t2 := (T0.cell 2).trans (rfl : _ = some (Value.int .i64 0))
      have t3 := (T0.cell 3).trans (rfl : _ = some (Value.slice none 0 0))
      have t4 := (T0.cell 4).trans (rfl : _ = some (Value.slice none 0 0))
      have t5 := (T0.cell 5).trans (rfl : _ = some (Value.string ⟨#[]⟩))
      have t6 := (T0.cell 6).trans (rfl : _ = some (Value.string ⟨#[]⟩))
      clear T0
      refine bodyPost_ret (v := .tuple #[pieceV 0 false 0 (.slice none 0 0) (.slice none 0 0) [] [], .bool false, .int .i64 0]) (by simp [results, Tryz.results13, go_sem, pieceV, t0, t1, t2, t3, t4, t5, t6]; first | done | rfl) rfl ?_
      exact HE.out
  · have hb : bad = 0 := by omega
    subst hb
    have h48 : 48 ≤ kept.length := by omega
    have hd : decide ((kept.length : Int) < 48) = false := decide_eq_false (by omega)
    have c3 := c3.trans (rfl : _ = some (Value.bool false))
    clear h1
    have sm : ∀ W, (Instr.slice 9 (.string (bs kept)) (some (.int .i64 5)) (some (.int .i64 8)) none).run Tryz.prog W = .ok (.string (bs ((kept.drop 5).take 3))) W := fun W => str_mid kept 5 3 (by omega) (by omega) W
    have cG := fun W => hid (unnum_bs ((kept.drop 5).take 3) (by simp; omega) W)
    have hdn : num ((kept.drop 5).take 3) = dN kept := rfl
    rw [hdn] at cG
    have hN := dN_lt kept
    have hn3w : IntKind.i64.wrap (dN kept : Int) = (dN kept : Int) := by rw [IntKind.wrap_i64]; omega
    have H := hid hB; clear hB
    have hRl := hid (fun h => @feedP_lim kept limit mode h48 h)
    have hRf := hid (fun h h' => @feedP_few kept limit mode h48 h h')
    have hRs := hid (fun h h' h'' => @feedP_spoilt kept limit mode h48 h h' h'')
    have hRe := hid (fun h h' h'' h3 => @feedP_err kept limit mode h48 h h' h'' h3)
    have hRg := hid (fun h h' h'' => @feedP_good kept limit mode h48 h h' h'')
    generalize feedP kept limit mode 0 = R at *
    have HA := hid hA; have HR := hid R1; have HB := hid B1
    clear hA R1 B1 G1
    have hmx : Tryz.prog.follows .mixedOrders = true := by kernel_rfl
    generalize hs3 : (kept.drop 5).take 3 = s3 at *
    generalize hN3 : dN kept = N3 at *
    go_enter Tryz.func13, Tryz.ntmps13
    go_wp2_with fail
    refine (cG _).out.mono ?_
    rintro e w2 ⟨rfl, hb2⟩
    have R2 := HR.out.below hb2
    have B2 := Blk.below HB.out hb2
    have A2 := HA.out.trans (hb2.mono HA.out.size)
    have hAl := (Below.refl w2.heap.size w2).alloc (Nat.le_refl _) (.cells #[.int .i64 0, .bool false, .int .i64 0, .slice none 0 0, .slice none 0 0, .string ⟨#[]⟩] 40)
    have X3 := Blk.new w2 40 #[.int .i64 0, .bool false, .int .i64 0, .slice none 0 0, .slice none 0 0, .string ⟨#[]⟩]
    have R3 := R2.below hAl
    have B3 := Blk.below B2 hAl
    have A3 := A2.trans (hAl.mono A2.size)
    have hs2 := A2.size
    have hr2 := R2.lt
    clear HR HB HA c0 c1 c3 R2 B2 A2 hAl hb2 cG sm
    have hwx : (w2.alloc (.cells #[.int .i64 0, .bool false, .int .i64 0, .slice none 0 0, .slice none 0 0, .string ⟨#[]⟩] 40)).heap.size = w2.heap.size + 1 := by simp
    obtain ⟨w3, hw3⟩ : ∃ w3, w2.alloc (.cells #[.int .i64 0, .bool false, .int .i64 0, .slice none 0 0, .slice none 0 0, .string ⟨#[]⟩] 40) = w3 := ⟨_, rfl⟩
    obtain ⟨x, hx⟩ : ∃ x, w2.heap.size = x := ⟨_, rfl⟩
    obtain ⟨r, hr⟩ : ∃ r, w.heap.size = r := ⟨_, rfl⟩
    rw [hw3] at X3 R3 B3 A3 hwx
    rw [hr] at R3 hr2
    rw [hx] at X3 hwx hs2 hr2
    rw [hr]
    have hrw : w.heap.size ≤ r := by omega
    have hgr : g ≠ r := by omega
    have hxg : x ≠ g := by omega
    have hxr : x ≠ r := by omega
    have hgx : g ≠ x := by omega
    have hrx : r ≠ x := by omega
    have G3 := grownL A3 (Nat.le_refl _) (some g)
    have c0 := (Blk.cell B3 0).trans (rfl : _ = some (Value.string (bs kept)))
    have c1 := (Blk.cell B3 1).trans (rfl : _ = some (Value.int .i64 (limit : Int)))
    have c2 := (Blk.cell B3 2).trans (rfl : _ = some (Value.int .i64 mode))
    have c3 := (Blk.cell B3 3).trans (rfl : _ = some (Value.bool false))
    have f0 := Blk.free B3 0
    have f3 := Blk.free B3 3
    have HX3 := hid X3; clear X3
    by_cases hlm : limit < N3
    · have hd2 : decide ((limit : Int) < (N3 : Int)) = true := decide_eq_true (by omega)
      have hR := hRl.out hlm
      clear hRl hRf hRs hRe hRg
      have F6 := Blk.set (Blk.set B3 3 (.bool true)) 0 (.string ⟨#[]⟩)
      have R6 := blk_off (blk_off R3 3 (.bool true) (fun e => hgr e.symm)) 0 (.string ⟨#[]⟩) (fun e => hgr e.symm)
      have G6 := grownF (grownF G3 3 (.bool true)) 0 (.string ⟨#[]⟩)
      obtain ⟨W6, hW6⟩ : ∃ W6, (w3.setCell ⟨g, 3, none⟩ (.bool true)).setCell ⟨g, 0, none⟩ (.string ⟨#[]⟩) = W6 := ⟨_, rfl⟩
      rw [hW6] at F6 R6 G6
      have v0 := R6.free 0
      have v1 := R6.free 1
      have v2 := R6.free 2
      have v3 := R6.free 3
      have v4 := R6.free 4
      have v5 := R6.free 5
      have v6 := R6.free 6
      have u0 := (R6.cell 0).trans (rfl : _ = some (Value.int .i64 0))
      have u1 := (R6.cell 1).trans (rfl : _ = some (Value.bool false))
      have u2 := (R6.cell 2).trans (rfl : _ = some (Value.int .i64 0))
      have u3 := (R6.cell 3).trans (rfl : _ = some (Value.slice none 0 0))
      have u4 := (R6.cell 4).trans (rfl : _ = some (Value.slice none 0 0))
      have u5 := (R6.cell 5).trans (rfl : _ = some (Value.string ⟨#[]⟩))
      have u6 := (R6.cell 6).trans (rfl : _ = some (Value.string ⟨#[]⟩))
      obtain ⟨W7, hW7, T7, F7, G7, -, -⟩ := piece_layB (sa := none) (aa := none) (d := []) (s := []) R6 hrw hgw F6 G6 (.int .i64 0) (.bool false) (.int .i64 0) (.slice none 0 0) (.slice none 0 0) (.string ⟨#[]⟩) (.string ⟨#[]⟩)
      have HT7 := hid T7; have HF7 := hid F7; clear T7 F7 F6 R3 B3 HX3
      go_wp2
      clear hW7 u0 u1 u2 u3 u4 u5 u6 v0 v1 v2 v3 v4 v5 v6
      have T0 := HT7.out
      have t0 := (T0.cell 0).trans (rfl : _ = some (Value.int .i64 0))
      have t1 := (T0.cell 1).trans (rfl : _ = some (Value.bool false))
      have t2 := (T0.cell 2).trans (rfl : _ = some (Value.int .i64 0))
      have t3 := (T0.cell 3).trans (rfl : _ = some (Value.slice none 0 0))
      have t4 := (T0.cell 4).trans (rfl : _ = some (Value.slice none 0 0))
      have t5 := (T0.cell 5).trans (rfl : _ = some (Value.string ⟨#[]⟩))
      have t6 := (T0.cell 6).trans (rfl : _ = some (Value.string ⟨#[]⟩))
      clear T0
      refine bodyPost_ret (v := .tuple #[pieceV 0 false 0 (.slice none 0 0) (.slice none 0 0) [] [], .bool false, .int .i64 4]) (by simp [results, Tryz.results13, go_sem, pieceV, t0, t1, t2, t3, t4, t5, t6]; first | done | rfl) rfl ?_
      rw [hR]
      exact ⟨_, _, rfl, sl_nil _ _, sl_nil _ _, HF7.out, G7⟩
    · have hd2 : decide ((limit : Int) < (N3 : Int)) = false := decide_eq_false (by omega)
      have hz2 : (sizeP kept mode).2 = 0 := by unfold sizeP; rw [if_neg (by omega), if_neg (by omega)]
      have cs := fun W => hid (rsize_any kept mode W (by omega) (by omega) (by omega))
      have hz48 : 48 ≤ (sizeP kept mode).1 := by
        unfold sizeP; rw [if_neg (by omega), if_neg (by omega)]; unfold allN; simp only; omega
      rw [hz2] at cs
      have hRf := hid (hRf.out hlm); have hRs := hid (hRs.out hlm); have hRe := hid (hRe.out hlm); have hRg := hid (hRg.out hlm)
      clear hRl hz2
      generalize (sizeP kept mode).1 = z at *
      go_wp2_with fail
      refine wpIn_wide (n := 4).1 ?_
      refine region_puts (aF := ?kA) [(41, .pointer (some ⟨g, 0, none⟩)), (42, .pointer (some ⟨g, 0, none⟩)), (43, .pointer (some ⟨g, 0, none⟩)), (44, .string (bs kept)), (45, .pointer (some ⟨g, 0, none⟩)), (46, .pointer (some ⟨g, 0, none⟩)), (47, .pointer (some ⟨g, 2, none⟩)), (48, .int .i64 mode), (49, .tuple #[.int .i64 (z : Int), .int .i64 0]), (40, .tuple #[.int .i64 (z : Int), .int .i64 0]), (50, .int .i64 (z : Int)), (51, .int .i64 0), (9, .int .i64 (z : Int))] (fun W => Below w3.heap.size w3 W) ?kB hmx (by kernel_rfl) (by kernel_rfl) (fun w w' h hb => h.trans (hb.mono h.size)) (Below.refl _ _).drew ?kC ?kD
      case kB =>
        simp only [putAll, List.foldl_cons, List.foldl_nil, List.setIfInBounds_toArray, List.set_cons_zero, List.set_cons_succ]
        exact rfl
      case kC =>
        have hrf : ∀ w : World, Below w.heap.size w w := fun w => Below.refl _ w
        have hg2 : g < w3.heap.size := Blk.lt B3
        refine ⟨?_, ?_, ?_, ?_, ?_, ?_, ?_, ?_, ?_, ?_, ?_, ?_, ?_, trivial⟩
        all_goals refine ⟨by simp, fun W h => ⟨?_, ?_⟩⟩
        all_goals first
          | (simp [go_sem, Oper.about]; done)
          | (simp [go_sem, Oper.about]; exact trivial)
          | skip
        all_goals
          have d0 := (h.cell (p := ⟨g, 0, none⟩) hg2).trans c0
          have d2 := (h.cell (p := ⟨g, 2, none⟩) hg2).trans c2
        all_goals first
          | (simp [OpTo, go_sem, hrf, d0, d2]; done)
          | skip
        all_goals
          have hc := (cs W).out
          simp [OpTo, go_sem]
          refine callsIn_wide.2 (hc.mono ?_)
          rintro e _ ⟨rfl, hb⟩
          exact ⟨rfl, hb⟩
      case kD =>
        intro w4 hW4
        have R4 := R3.below hW4
        have B4 := Blk.below B3 hW4
        have X4 := HX3.out.below hW4
        have G4 := grownT G3 (grownL hW4 (Nat.le_refl _) (some g))
        have A4 := A3.trans (hW4.mono A3.size)
        have hs4 := hW4.size
        clear R3 B3 G3 A3 HX3 c0 c1 c2 c3 f0 f3 hW4 cs
        have c0 := (Blk.cell B4 0).trans (rfl : _ = some (Value.string (bs kept)))
        have c2 := (Blk.cell B4 2).trans (rfl : _ = some (Value.int .i64 mode))
        gi_wp2
        by_cases hfew : kept.length < z
        · have hd3 : decide ((kept.length : Int) < (z : Int)) = true := decide_eq_true (by omega)
          have hR := hRf.out hfew
          clear hRf hRs hRe hRg
          have v0 := R4.free 0
          have v1 := R4.free 1
          have v2 := R4.free 2
          have v3 := R4.free 3
          have v4 := R4.free 4
          have v5 := R4.free 5
          have v6 := R4.free 6
          have u0 := (R4.cell 0).trans (rfl : _ = some (Value.int .i64 0))
          have u1 := (R4.cell 1).trans (rfl : _ = some (Value.bool false))
          have u2 := (R4.cell 2).trans (rfl : _ = some (Value.int .i64 0))
          have u3 := (R4.cell 3).trans (rfl : _ = some (Value.slice none 0 0))
          have u4 := (R4.cell 4).trans (rfl : _ = some (Value.slice none 0 0))
          have u5 := (R4.cell 5).trans (rfl : _ = some (Value.string ⟨#[]⟩))
          have u6 := (R4.cell 6).trans (rfl : _ = some (Value.string ⟨#[]⟩))
          obtain ⟨W7, hW7, T7, F7, G7, -, -⟩ := piece_layB (sa := none) (aa := none) (d := []) (s := []) R4 hrw hgw B4 G4 (.int .i64 0) (.bool false) (.int .i64 0) (.slice none 0 0) (.slice none 0 0) (.string ⟨#[]⟩) (.string ⟨#[]⟩)
          have HT7 := hid T7; have HF7 := hid F7; clear T7 F7
          go_wp2
          clear hW7 u0 u1 u2 u3 u4 u5 u6 v0 v1 v2 v3 v4 v5 v6
          have T0 := HT7.out
          have t0 := (T0.cell 0).trans (rfl : _ = some (Value.int .i64 0))
          have t1 := (T0.cell 1).trans (rfl : _ = some (Value.bool false))
          have t2 := (T0.cell 2).trans (rfl : _ = some (Value.int .i64 0))
          have t3 := (T0.cell 3).trans (rfl : _ = some (Value.slice none 0 0))
          have t4 := (T0.cell 4).trans (rfl : _ = some (Value.slice none 0 0))
          have t5 := (T0.cell 5).trans (rfl : _ = some (Value.string ⟨#[]⟩))
          have t6 := (T0.cell 6).trans (rfl : _ = some (Value.string ⟨#[]⟩))
          clear T0
          refine bodyPost_ret (v := .tuple #[pieceV 0 false 0 (.slice none 0 0) (.slice none 0 0) [] [], .bool false, .int .i64 0]) (by simp [results, Tryz.results13, go_sem, pieceV, t0, t1, t2, t3, t4, t5, t6]; first | done | rfl) rfl ?_
          rw [hR]
          exact ⟨_, _, rfl, sl_nil _ _, sl_nil _ _, HF7.out, G7⟩
        · have hd3 : decide ((kept.length : Int) < (z : Int)) = false := decide_eq_false (by omega)
          have cr := fun W => hid (rpduRead_any (kept.take z) mode W (by simp; omega) (by omega) (by omega))
          unfold PduRdRPost at cr
          have hRs := hid (hRs.out hfew); have hRe := hid (hRe.out hfew); have hRg := hid (hRg.out hfew)
          clear hRf
          have hzl : z ≤ kept.length := by omega
          have hzi : (z : Int) ≤ (kept.length : Int) := by omega
          generalize readP (kept.take z) mode = RD at *
          go_wp2_with fail
          refine wpIn_wide (n := 4).1 ?_
          refine region_ghost (G := (Option Addr × Nat) × (Option Addr × Nat))
            (fun y => [(61, .pointer (some ⟨g, 0, none⟩)), (62, .pointer (some ⟨g, 0, none⟩)), (63, .pointer (some ⟨g, 0, none⟩)), (64, .string (bs kept)), (65, .int .i64 (z : Int)), (66, .string (bs (kept.take z))), (67, .pointer (some ⟨g, 0, none⟩)), (68, .pointer (some ⟨g, 0, none⟩)), (69, .pointer (some ⟨g, 2, none⟩)), (70, .int .i64 mode), (71, .tuple #[.agg #[.int .i64 RD.op, .bool RD.now, .int .i64 RD.flags, .slice y.1.1 RD.vals.length y.1.2, .slice y.2.1 RD.ahs.length y.2.2, .string (bs RD.data)], .int .i64 RD.all, .int .i64 (RD.e : Nat)]), (60, .tuple #[.agg #[.int .i64 RD.op, .bool RD.now, .int .i64 RD.flags, .slice y.1.1 RD.vals.length y.1.2, .slice y.2.1 RD.ahs.length y.2.2, .string (bs RD.data)], .int .i64 RD.all, .int .i64 (RD.e : Nat)]), (72, .agg #[.int .i64 RD.op, .bool RD.now, .int .i64 RD.flags, .slice y.1.1 RD.vals.length y.1.2, .slice y.2.1 RD.ahs.length y.2.2, .string (bs RD.data)]), (73, .int .i64 RD.all), (74, .int .i64 (RD.e : Nat)), (7, .int .i64 (RD.e : Nat))])
            (fun d y W => w4.grownBy W (some x) ∧ (d 10 = true → Sl W (.slice y.1.1 RD.vals.length y.1.2) 1 RD.vals.length (u64Cells RD.vals) ∧ Sl W (.slice y.2.1 RD.ahs.length y.2.2) 2 RD.ahs.length (ahsCells RD.ahs)) ∧
              Blk W x 40 (if d 15 = true then #[.int .i64 RD.op, .bool RD.now, .int .i64 RD.flags, .slice y.1.1 RD.vals.length y.1.2, .slice y.2.1 RD.ahs.length y.2.2, .string (bs RD.data)] else #[.int .i64 0, .bool false, .int .i64 0, .slice none 0 0, .slice none 0 0, .string (bs [])]) ∧ (d 15 = true → d 10 = true))
            ((none, 0), (none, 0)) (aF := ?kA9) ?kB9 hmx [61, 62, 63, 64, 65, 66, 67, 68, 69, 70, 71, 60, 72, 73, 74, 7] (fun _ => rfl) (by kernel_rfl) (by kernel_rfl) ⟨grownL (Below.refl w4.heap.size w4).drew (Nat.le_refl _) _, by simp, by simp; exact X4, by simp⟩ ?kE ?kQ
          case kB9 =>
            intro y
            simp only [putAll, List.foldl_cons, List.foldl_nil, List.setIfInBounds_toArray, List.set_cons_zero, List.set_cons_succ]
            exact rfl
          case kE =>
            have hg4 : g < w4.heap.size := Blk.lt B4
            have gcell : ∀ {W : World} (i : Nat), w4.grownBy W (some x) → W.cell? ⟨g, i, none⟩ = w4.cell? ⟨g, i, none⟩ := fun {W} i h => World.cell?_of_block (h.block g hg4 (by intro e; cases e; exact hxg rfl))
            refine ⟨?o0, ?o1, ?o2, ?o3, ?o4, ?o5, ?o6, ?o7, ?o8, ?o9, ?o10, ?o11, ?o12, ?o13, ?o14, ?o15, ?o16, trivial⟩
            all_goals refine ⟨by simp, fun d y W hC hd hdep => ⟨by first | (simp [go_sem, Oper.about]; done) | (simp [go_sem, Oper.about]; exact trivial), ?_⟩⟩
            case o10 =>
              have hc := (cr W).out
              refine opGhost_call (f := 48) (args := #[.string (bs (kept.take z)), .int .i64 mode]) (w' := W) (by simp [go_sem]) rfl (by simp) (callsIn_wide.2 (hc.mono ?_))
              rintro e W2 ⟨v, av, rfl, hv, hav, hb2⟩
              have hv0 := hv
              have hav0 := hav
              obtain ⟨sa, sc, rfl, _⟩ := hv
              obtain ⟨aa, ac, rfl, _⟩ := hav
              have h15f : d 15 = false := by
                cases hq : d 15 with
                | false => rfl
                | true =>
                  have := hC.2.2.2 hq
                  have hd' : d 10 = false := hd
                  rw [hd'] at this; cases this
              have e15 : also d 10 15 = false := h15f
              have q2 := hC.2.2.1
              rw [if_neg (by rw [h15f]; simp)] at q2
              refine ⟨((sa, sc), (aa, ac)), by simp [go_sem, pduV], .inr ⟨[71, 60, 72], by kernel_rfl, by simp [AgreeOff]⟩, grownT hC.1 (grownL hb2 (Nat.le_refl _) _), fun _ => ⟨hv0, hav0⟩, ?_, fun h15 => ?_⟩
              · rw [if_neg (by show ¬ also d 10 15 = true; rw [e15]; simp)]
                exact q2.below hb2
              · have h15' : also d 10 15 = true := h15
                rw [e15] at h15'; cases h15'
            case o15 =>
              have hd' : d 15 = false := hd
              simp [Region.binds] at hdep
              have d10 : d 10 = true := by simp [hdep]
              clear hdep
              have q2 := hC.2.2.1
              obtain ⟨s1, s2⟩ := hC.2.1 d10
              rw [if_neg (by rw [hd']; simp)] at q2
              have v0 := q2.free 0
              have v1 := q2.free 1
              have v2 := q2.free 2
              have v3 := q2.free 3
              have v4 := q2.free 4
              have v5 := q2.free 5
              have t0 := (q2.cell 0).trans (rfl : _ = some (Value.int .i64 0))
              have t1 := (q2.cell 1).trans (rfl : _ = some (Value.bool false))
              have t2 := (q2.cell 2).trans (rfl : _ = some (Value.int .i64 0))
              have t3 := (q2.cell 3).trans (rfl : _ = some (Value.slice none 0 0))
              have t4 := (q2.cell 4).trans (rfl : _ = some (Value.slice none 0 0))
              have t5 := (q2.cell 5).trans (rfl : _ = some (Value.string (bs [])))
              have f1 := vals_far s1 (op := 0) (now := false) (fl := 0) (sa := none) (aa := none) (n := 0) (c := 0) (m := 0) (k := 0) (d := bs []) q2
              have f2 := ahs_far s2 (op := 0) (now := false) (fl := 0) (sa := none) (aa := none) (n := 0) (c := 0) (m := 0) (k := 0) (d := bs []) q2
              have e15 : also d 15 15 = true := by unfold also; simp
              refine opGhost_store (w' := (((((W.setCell ⟨x, 0, none⟩ (.int .i64 RD.op)).setCell ⟨x, 1, none⟩ (.bool RD.now)).setCell ⟨x, 2, none⟩ (.int .i64 RD.flags)).setCell ⟨x, 3, none⟩ (.slice y.1.1 RD.vals.length y.1.2)).setCell ⟨x, 4, none⟩ (.slice y.2.1 RD.ahs.length y.2.2)).setCell ⟨x, 5, none⟩ (.string (bs RD.data)))
                (by simp [go_sem, v0, v1, v2, v3, v4, v5, t0, t1, t2, t3, t4, t5]) rfl ⟨?_, fun _ => ⟨?_, ?_⟩, ?_, fun _ => d10⟩
              · exact grownF (grownF (grownF (grownF (grownF (grownF hC.1 0 _) 1 _) 2 _) 3 _) 4 _) 5 _
              · exact sl_set (sl_set (sl_set (sl_set (sl_set (sl_set s1 x 0 _ f1) x 1 _ f1) x 2 _ f1) x 3 _ f1) x 4 _ f1) x 5 _ f1
              · exact sl_set (sl_set (sl_set (sl_set (sl_set (sl_set s2 x 0 _ f2) x 1 _ f2) x 2 _ f2) x 3 _ f2) x 4 _ f2) x 5 _ f2
              · rw [if_pos (by show also d 15 15 = true; exact e15)]
                exact (((((q2.set 0 _).set 1 _).set 2 _).set 3 _).set 4 _).set 5 _
            all_goals
              have d0 := (gcell 0 hC.1).trans c0
              have d2 := (gcell 2 hC.1).trans c2
              exact opGhost_same (by simp [go_sem, d0, d2, hzl, hzi]) rfl hC
          case kQ =>
            rintro d ⟨⟨sa, sc⟩, ⟨aa, ac⟩⟩ w5 hall ⟨H5, hS, X5, -⟩
            have d10 := hall 10 (by simp)
            have d15 := hall 15 (by simp)
            obtain ⟨V5, I5⟩ := hS d10
            rw [if_pos d15] at X5
            simp only at V5 I5 X5
            clear hS hall d10 d15
            have R5 := R4.only H5 hrx
            have B5 := Blk.only B4 H5 hgx
            have G5 : w.grownBy w5 (some g) := ⟨H5.os.trans G4.os, H5.tape.trans G4.tape, H5.output.trans G4.output, Nat.le_trans G4.size H5.size, fun k hk hne => (H5.block k (Nat.lt_of_lt_of_le hk G4.size) (by intro e; cases e; omega)).trans (G4.block k hk hne)⟩
            clear R4 B4 G4 c0 c2 H5 cr X4
            have c0 := (Blk.cell B5 0).trans (rfl : _ = some (Value.string (bs kept)))
            have f0 := Blk.free B5 0
            have c3 := (Blk.cell B5 3).trans (rfl : _ = some (Value.bool false))
            have f3 := Blk.free B5 3
            gi_wp2
            by_cases h0 : RD.e = 0
            · have hR := hRg.out h0
              clear hRs hRe hRg
              rw [h0]
              have F6 := Blk.set B5 0 (.string (bs (kept.drop z)))
              have V6 := sl_set V5 g 0 (.string (bs (kept.drop z))) (u64_far V5 B5 (rfeed_nou _ _ _ _))
              have I6 := sl_set I5 g 0 (.string (bs (kept.drop z))) (ahs_far' I5 B5 (rfeed_noa _ _ _ _))
              have R6 := blk_off R5 0 (.string (bs (kept.drop z))) (fun e => hgr e.symm)
              have X6 := blk_off X5 0 (.string (bs (kept.drop z))) hxg
              have G6 := grownF G5 0 (.string (bs (kept.drop z)))
              obtain ⟨W6, hW6⟩ : ∃ W6, w5.setCell ⟨g, 0, none⟩ (.string (bs (kept.drop z))) = W6 := ⟨_, rfl⟩
              rw [hW6] at F6 R6 G6 V6 I6 X6
              clear V5 I5 X5 R5
              have v0 := R6.free 0
              have v1 := R6.free 1
              have v2 := R6.free 2
              have v3 := R6.free 3
              have v4 := R6.free 4
              have v5 := R6.free 5
              have v6 := R6.free 6
              have u0 := (R6.cell 0).trans (rfl : _ = some (Value.int .i64 0))
              have u1 := (R6.cell 1).trans (rfl : _ = some (Value.bool false))
              have u2 := (R6.cell 2).trans (rfl : _ = some (Value.int .i64 0))
              have u3 := (R6.cell 3).trans (rfl : _ = some (Value.slice none 0 0))
              have u4 := (R6.cell 4).trans (rfl : _ = some (Value.slice none 0 0))
              have u5 := (R6.cell 5).trans (rfl : _ = some (Value.string ⟨#[]⟩))
              have u6 := (R6.cell 6).trans (rfl : _ = some (Value.string ⟨#[]⟩))
              have s0 := (X6.cell 0).trans (rfl : _ = some (Value.int .i64 RD.op))
              have s1 := (X6.cell 1).trans (rfl : _ = some (Value.bool RD.now))
              have s2 := (X6.cell 2).trans (rfl : _ = some (Value.int .i64 RD.flags))
              have s3 := (X6.cell 3).trans (rfl : _ = some (Value.slice sa RD.vals.length sc))
              have s4 := (X6.cell 4).trans (rfl : _ = some (Value.slice aa RD.ahs.length ac))
              have s5 := (X6.cell 5).trans (rfl : _ = some (Value.string (bs RD.data)))
              obtain ⟨W7, hW7, T7, F7, G7, S7, U7⟩ := piece_layB (sa := none) (aa := none) (d := []) (s := []) R6 hrw hgw F6 G6 (.int .i64 RD.op) (.bool RD.now) (.int .i64 RD.flags) (.slice sa RD.vals.length sc) (.slice aa RD.ahs.length ac) (.string (bs RD.data)) (.string ⟨#[]⟩)
              have V7 := S7 _ _ V6
              have I7 := U7 _ _ I6
              have HT7 := hid T7; have HV7 := hid V7; have HI7 := hid I7; have HF7 := hid F7
              clear T7 V7 I7 V6 I6 S7 U7 X6 F7 F6
              go_wp2
              clear hW7 u0 u1 u2 u3 u4 u5 u6 v0 v1 v2 v3 v4 v5 v6 s0 s1 s2 s3 s4 s5
              have T0 := HT7.out
              have t0 := (T0.cell 0).trans (rfl : _ = some (Value.int .i64 RD.op))
              have t1 := (T0.cell 1).trans (rfl : _ = some (Value.bool RD.now))
              have t2 := (T0.cell 2).trans (rfl : _ = some (Value.int .i64 RD.flags))
              have t3 := (T0.cell 3).trans (rfl : _ = some (Value.slice sa RD.vals.length sc))
              have t4 := (T0.cell 4).trans (rfl : _ = some (Value.slice aa RD.ahs.length ac))
              have t5 := (T0.cell 5).trans (rfl : _ = some (Value.string (bs RD.data)))
              have t6 := (T0.cell 6).trans (rfl : _ = some (Value.string ⟨#[]⟩))
              clear T0
              refine bodyPost_ret (v := .tuple #[pieceV RD.op RD.now RD.flags (.slice sa RD.vals.length sc) (.slice aa RD.ahs.length ac) RD.data [], .bool true, .int .i64 0]) (by simp [results, Tryz.results13, go_sem, pieceV, t0, t1, t2, t3, t4, t5, t6]; first | done | rfl) rfl ?_
              rw [hR]
              exact ⟨_, _, rfl, HV7.out, HI7.out, HF7.out, G7⟩
            by_cases h13 : RD.e = 13
            · have hR := hRs.out h13
              clear hRs hRe hRg
              rw [h13]
              have F6 := Blk.set B5 0 (.string (bs (kept.drop z)))
              have R6 := blk_off R5 0 (.string (bs (kept.drop z))) (fun e => hgr e.symm)
              have G6 := grownF G5 0 (.string (bs (kept.drop z)))
              obtain ⟨W6, hW6⟩ : ∃ W6, w5.setCell ⟨g, 0, none⟩ (.string (bs (kept.drop z))) = W6 := ⟨_, rfl⟩
              rw [hW6] at F6 R6 G6
              clear V5 I5 X5 R5
              have v0 := R6.free 0
              have v1 := R6.free 1
              have v2 := R6.free 2
              have v3 := R6.free 3
              have v4 := R6.free 4
              have v5 := R6.free 5
              have v6 := R6.free 6
              have u0 := (R6.cell 0).trans (rfl : _ = some (Value.int .i64 0))
              have u1 := (R6.cell 1).trans (rfl : _ = some (Value.bool false))
              have u2 := (R6.cell 2).trans (rfl : _ = some (Value.int .i64 0))
              have u3 := (R6.cell 3).trans (rfl : _ = some (Value.slice none 0 0))
              have u4 := (R6.cell 4).trans (rfl : _ = some (Value.slice none 0 0))
              have u5 := (R6.cell 5).trans (rfl : _ = some (Value.string ⟨#[]⟩))
              have u6 := (R6.cell 6).trans (rfl : _ = some (Value.string ⟨#[]⟩))
              obtain ⟨W7, hW7, T7, F7, G7, -, -⟩ := piece_layB (sa := none) (aa := none) (d := []) (s := []) R6 hrw hgw F6 G6 (.int .i64 0) (.bool false) (.int .i64 0) (.slice none 0 0) (.slice none 0 0) (.string ⟨#[]⟩) (.string (bs (kept.take 48)))
              have HT7 := hid T7; have HF7 := hid F7; clear T7 F7 F6
              have h48' : (48 : Int) ≤ (kept.length : Int) := by omega
              go_wp2
              clear hW7 u0 u1 u2 u3 u4 u5 u6 v0 v1 v2 v3 v4 v5 v6
              have T0 := HT7.out
              have t0 := (T0.cell 0).trans (rfl : _ = some (Value.int .i64 0))
              have t1 := (T0.cell 1).trans (rfl : _ = some (Value.bool false))
              have t2 := (T0.cell 2).trans (rfl : _ = some (Value.int .i64 0))
              have t3 := (T0.cell 3).trans (rfl : _ = some (Value.slice none 0 0))
              have t4 := (T0.cell 4).trans (rfl : _ = some (Value.slice none 0 0))
              have t5 := (T0.cell 5).trans (rfl : _ = some (Value.string ⟨#[]⟩))
              have t6 := (T0.cell 6).trans (rfl : _ = some (Value.string (bs (kept.take 48))))
              clear T0
              refine bodyPost_ret (v := .tuple #[pieceV 0 false 0 (.slice none 0 0) (.slice none 0 0) [] (kept.take 48), .bool true, .int .i64 0]) (by simp [results, Tryz.results13, go_sem, pieceV, t0, t1, t2, t3, t4, t5, t6]; first | done | rfl) rfl ?_
              rw [hR]
              exact ⟨_, _, rfl, sl_nil _ _, sl_nil _ _, HF7.out, G7⟩
            · have hR := hRe.out h13 h0
              clear hRs hRe hRg
              have n13 : ((RD.e : Int) == 13) = false := by rw [beq_eq_false_iff_ne]; omega
              have n0 : ((RD.e : Int) == 0) = false := by rw [beq_eq_false_iff_ne]; omega
              have hbt : (RD.e != 0) = true := by simpa using h0
              have F6 := Blk.set (Blk.set B5 3 (.bool true)) 0 (.string ⟨#[]⟩)
              have R6 := blk_off (blk_off R5 3 (.bool true) (fun e => hgr e.symm)) 0 (.string ⟨#[]⟩) (fun e => hgr e.symm)
              have G6 := grownF (grownF G5 3 (.bool true)) 0 (.string ⟨#[]⟩)
              obtain ⟨W6, hW6⟩ : ∃ W6, (w5.setCell ⟨g, 3, none⟩ (.bool true)).setCell ⟨g, 0, none⟩ (.string ⟨#[]⟩) = W6 := ⟨_, rfl⟩
              rw [hW6] at F6 R6 G6
              clear V5 I5 X5 R5
              have v0 := R6.free 0
              have v1 := R6.free 1
              have v2 := R6.free 2
              have v3 := R6.free 3
              have v4 := R6.free 4
              have v5 := R6.free 5
              have v6 := R6.free 6
              have u0 := (R6.cell 0).trans (rfl : _ = some (Value.int .i64 0))
              have u1 := (R6.cell 1).trans (rfl : _ = some (Value.bool false))
              have u2 := (R6.cell 2).trans (rfl : _ = some (Value.int .i64 0))
              have u3 := (R6.cell 3).trans (rfl : _ = some (Value.slice none 0 0))
              have u4 := (R6.cell 4).trans (rfl : _ = some (Value.slice none 0 0))
              have u5 := (R6.cell 5).trans (rfl : _ = some (Value.string ⟨#[]⟩))
              have u6 := (R6.cell 6).trans (rfl : _ = some (Value.string ⟨#[]⟩))
              obtain ⟨W7, hW7, T7, F7, G7, -, -⟩ := piece_layB (sa := none) (aa := none) (d := []) (s := []) R6 hrw hgw F6 G6 (.int .i64 0) (.bool false) (.int .i64 0) (.slice none 0 0) (.slice none 0 0) (.string ⟨#[]⟩) (.string ⟨#[]⟩)
              have HT7 := hid T7; have HF7 := hid F7; clear T7 F7 F6
              go_wp2
              clear hW7 u0 u1 u2 u3 u4 u5 u6 v0 v1 v2 v3 v4 v5 v6
              have T0 := HT7.out
              have t0 := (T0.cell 0).trans (rfl : _ = some (Value.int .i64 0))
              have t1 := (T0.cell 1).trans (rfl : _ = some (Value.bool false))
              have t2 := (T0.cell 2).trans (rfl : _ = some (Value.int .i64 0))
              have t3 := (T0.cell 3).trans (rfl : _ = some (Value.slice none 0 0))
              have t4 := (T0.cell 4).trans (rfl : _ = some (Value.slice none 0 0))
              have t5 := (T0.cell 5).trans (rfl : _ = some (Value.string ⟨#[]⟩))
              have t6 := (T0.cell 6).trans (rfl : _ = some (Value.string ⟨#[]⟩))
              clear T0
              refine bodyPost_ret (v := .tuple #[pieceV 0 false 0 (.slice none 0 0) (.slice none 0 0) [] [], .bool false, .int .i64 (RD.e : Int)]) (by simp [results, Tryz.results13, go_sem, pieceV, t0, t1, t2, t3, t4, t5, t6]; first | done | rfl) rfl ?_
              rw [hR]
              refine ⟨_, _, rfl, sl_nil _ _, sl_nil _ _, ?_, G7⟩
              unfold RFeedB
              simp only [hbt]
              exact HF7.out
end
end Go.Proofs.YtfeenkofnbefaaaGreatDoor
