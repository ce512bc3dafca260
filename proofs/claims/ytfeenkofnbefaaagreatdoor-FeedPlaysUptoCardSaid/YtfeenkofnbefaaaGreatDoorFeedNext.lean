/- The next PDU out of a feed: by the program. -/
import Derived.Test.YtfeenkofnbefaaaGreatDoorFeedSeq
import Derived.Test.YtfeenkofnbefaaaGreatDoorPduRd
import Derived.Test.YtfeenkofnbefaaaGreatDoorPduSize
import Derived.Test.YtfeenkofnbefaaaGreatDoorGhost
import Derived.Test.YtfeenkofnbefaaaGreatDoorBlk
set_option linter.unusedSectionVars false
set_option linter.unusedSimpArgs false
set_option linter.unusedVariables false
namespace Go.Proofs.YtfeenkofnbefaaaGreatDoor
open Go Go.RowKit
set_option linter.unusedVariables false
set_option linter.unusedSectionVars false
set_option linter.unusedSimpArgs false
set_option maxRecDepth 100000
def pieceC (op : Int) (now : Bool) (flags : Int) (v a : Value) (d s : List UInt8) : Array Value := #[.int .i64 op, .bool now, .int .i64 flags, v, a, .string (bs d), .string (bs s)]
def FNextPost (R : FdR) (g limit : Nat) (mode : Int) (w : World) (e : Ending) (w' : World) : Prop :=
  ∃ v av, e = .returned (.tuple #[pieceV R.pdu.op R.pdu.now R.pdu.flags v av R.pdu.data R.spoilt, .bool R.ok, errV 31 R.e]) ∧ Sl w' v 1 R.pdu.vals.length (u64Cells R.pdu.vals) ∧ Sl w' av 2 R.pdu.ahs.length (ahsCells R.pdu.ahs) ∧ FeedB w' g R.kept limit mode R.bad ∧ w.grownBy w' (some g)
/-- a row of numbers lies not in a block that holds none -/
theorem u64_far {W : World} {v : Value} {xs : List Nat} (h : Sl W v 1 xs.length (u64Cells xs)) {g : Nat} {t : TypeId} {cs : Array Value} (B : Blk W g t cs) (hc : ∀ (i : Nat) (x : Int), cs[i]? ≠ some (Value.int .u64 x)) :
    ∀ b o q, v = .slice (some ⟨b, o, none⟩) xs.length q → xs.length ≠ 0 → b ≠ g := by
  rintro b o q rfl h0 rfl
  obtain ⟨b', o', c', e, _, hcc⟩ := vals_open h (by omega)
  cases e
  have h1 := hcc 0 xs[0] (List.getElem?_eq_getElem (by omega))
  rw [B.cell] at h1
  exact hc _ _ h1
theorem ahs_far' {W : World} {v : Value} {xs : List (Nat × List UInt8)} (h : Sl W v 2 xs.length (ahsCells xs)) {g : Nat} {t : TypeId} {cs : Array Value} (B : Blk W g t cs) (hc : ∀ (i : Nat) (x : Int) (s : ByteArray), cs[i]? = some (Value.int .i64 x) → cs[i + 1]? ≠ some (Value.string s)) :
    ∀ b o q, v = .slice (some ⟨b, o, none⟩) xs.length q → xs.length ≠ 0 → b ≠ g := by
  rintro b o q rfl h0 rfl
  obtain ⟨a', c', e, _, hcc⟩ := h
  cases e
  rcases hcc with hcc | ⟨b', o', e, hcc⟩
  · exact h0 hcc
  · cases e
    cases xs with
    | nil => exact h0 rfl
    | cons x xs =>
      have h1 := hcc 0 _ rfl
      have h2 := hcc 1 _ rfl
      rw [B.cell] at h1 h2
      exact hc _ _ _ h1 h2
theorem piece_nou (op : Int) (now : Bool) (fl : Int) (sa aa : Option Addr) (n c m k : Nat) (d s : List UInt8) : ∀ (i : Nat) (x : Int), (pieceC op now fl (.slice sa n c) (.slice aa m k) d s)[i]? ≠ some (Value.int .u64 x) := by
  intro i x h
  rcases i with _ | _ | _ | _ | _ | _ | _ | i <;> simp [pieceC] at h
theorem piece_noa (op : Int) (now : Bool) (fl : Int) (sa aa : Option Addr) (n c m k : Nat) (d s : List UInt8) : ∀ (i : Nat) (x : Int) (s' : ByteArray), (pieceC op now fl (.slice sa n c) (.slice aa m k) d s)[i]? = some (Value.int .i64 x) → (pieceC op now fl (.slice sa n c) (.slice aa m k) d s)[i + 1]? ≠ some (Value.string s') := by
  intro i x s' h h2
  rcases i with _ | _ | _ | _ | _ | _ | _ | i <;> simp [pieceC] at h h2
def feedC (kept : List UInt8) (limit : Nat) (mode : Int) (bad : Nat) : Array Value := #[.string (bs kept), .int .i64 (limit : Int), .int .i64 mode, errV 31 bad]
theorem feed_nou (kept : List UInt8) (limit : Nat) (mode : Int) (bad : Nat) : ∀ (i : Nat) (x : Int), (feedC kept limit mode bad)[i]? ≠ some (Value.int .u64 x) := by
  intro i x h
  have he : errV 31 bad ≠ Value.int .u64 x := by unfold errV; split <;> simp
  rcases i with _ | _ | _ | _ | i <;> simp [feedC] at h
  exact he h
theorem feed_noa (kept : List UInt8) (limit : Nat) (mode : Int) (bad : Nat) : ∀ (i : Nat) (x : Int) (s' : ByteArray), (feedC kept limit mode bad)[i]? = some (Value.int .i64 x) → (feedC kept limit mode bad)[i + 1]? ≠ some (Value.string s') := by
  intro i x s' h h2
  have he : errV 31 bad ≠ Value.string s' := by unfold errV; split <;> simp
  rcases i with _ | _ | _ | _ | i <;> simp [feedC] at h h2
  exact he h2
/-- the cells of a piece are laid -/
theorem piece_lay {w W : World} {g r : Nat} {t : TypeId} {op : Int} {now : Bool} {fl : Int} {sa aa : Option Addr} {n c m k : Nat} {d s : List UInt8} (B : Blk W r t (pieceC op now fl (.slice sa n c) (.slice aa m k) d s)) (hr : w.heap.size ≤ r) (hg : g < w.heap.size)
    {kept : List UInt8} {limit : Nat} {mode : Int} {bad : Nat} (hF : FeedB W g kept limit mode bad) (hG : w.grownBy W (some g)) (x0 x1 x2 x3 x4 x5 x6 : Value) :
    ∃ W', ((((((W.setCell ⟨r, 0, none⟩ x0).setCell ⟨r, 1, none⟩ x1).setCell ⟨r, 2, none⟩ x2).setCell ⟨r, 3, none⟩ x3).setCell ⟨r, 4, none⟩ x4).setCell ⟨r, 5, none⟩ x5).setCell ⟨r, 6, none⟩ x6 = W' ∧
      Blk W' r t #[x0, x1, x2, x3, x4, x5, x6] ∧ FeedB W' g kept limit mode bad ∧ w.grownBy W' (some g) ∧
      (∀ v xs, Sl W v 1 xs.length (u64Cells xs) → Sl W' v 1 xs.length (u64Cells xs)) ∧ (∀ v xs, Sl W v 2 xs.length (ahsCells xs) → Sl W' v 2 xs.length (ahsCells xs)) := by
  have hne : g ≠ r := by omega
  have gr : ∀ {A : World} (i : Nat) (u : Value), w.grownBy A (some g) → w.grownBy (A.setCell ⟨r, i, none⟩ u) (some g) := fun {A} i u h =>
    ⟨h.os, h.tape, h.output, by simpa [World.setCell] using h.size, fun q hq hqn => (Below.heap_setCell A ⟨r, i, none⟩ u q (by simp only; omega)).trans (h.block q hq hqn)⟩
  refine ⟨_, rfl, ?_, ?_, ?_, ?_, ?_⟩
  · have := ((((((B.set 0 x0).set 1 x1).set 2 x2).set 3 x3).set 4 x4).set 5 x5).set 6 x6
    simpa [pieceC] using this
  · exact blk_off (blk_off (blk_off (blk_off (blk_off (blk_off (blk_off hF 0 x0 hne) 1 x1 hne) 2 x2 hne) 3 x3 hne) 4 x4 hne) 5 x5 hne) 6 x6 hne
  · exact gr 6 x6 (gr 5 x5 (gr 4 x4 (gr 3 x3 (gr 2 x2 (gr 1 x1 (gr 0 x0 hG))))))
  · intro v xs hv
    have hd := u64_far hv B (piece_nou _ _ _ _ _ _ _ _ _ _ _)
    exact sl_set (sl_set (sl_set (sl_set (sl_set (sl_set (sl_set hv r 0 x0 hd) r 1 x1 hd) r 2 x2 hd) r 3 x3 hd) r 4 x4 hd) r 5 x5 hd) r 6 x6 hd
  · intro v xs hv
    have hd := ahs_far' hv B (piece_noa _ _ _ _ _ _ _ _ _ _ _)
    exact sl_set (sl_set (sl_set (sl_set (sl_set (sl_set (sl_set hv r 0 x0 hd) r 1 x1 hd) r 2 x2 hd) r 3 x3 hd) r 4 x4 hd) r 5 x5 hd) r 6 x6 hd
theorem feed_kept {w W : World} {g : Nat} {kept : List UInt8} {limit : Nat} {mode : Int} {bad : Nat} (hF : FeedB W g kept limit mode bad) (s : List UInt8) :
    FeedB (W.setCell ⟨g, 0, none⟩ (.string (bs s))) g s limit mode bad ∧ (∀ v xs, Sl W v 1 xs.length (u64Cells xs) → Sl (W.setCell ⟨g, 0, none⟩ (.string (bs s))) v 1 xs.length (u64Cells xs)) ∧ (∀ v xs, Sl W v 2 xs.length (ahsCells xs) → Sl (W.setCell ⟨g, 0, none⟩ (.string (bs s))) v 2 xs.length (ahsCells xs)) :=
  ⟨Blk.set hF 0 _, fun v xs hv => sl_set hv g 0 _ (u64_far hv hF (feed_nou _ _ _ _)), fun v xs hv => sl_set hv g 0 _ (ahs_far' hv hF (feed_noa _ _ _ _))⟩
theorem grownT {w w1 w2 : World} {r : Option Nat} (h : w.grownBy w1 r) (h2 : w1.grownBy w2 r) : w.grownBy w2 r :=
  ⟨h2.os.trans h.os, h2.tape.trans h.tape, h2.output.trans h.output, Nat.le_trans h.size h2.size, fun k hk hne => (h2.block k (Nat.lt_of_lt_of_le hk h.size) hne).trans (h.block k hk hne)⟩
theorem grownL {w w' : World} {B : Nat} (h : Below B w w') (hB : w.heap.size ≤ B) (r : Option Nat) : w.grownBy w' r := ⟨h.os, h.tape, h.output, h.size, fun k hk _ => h.block k (Nat.lt_of_lt_of_le hk hB)⟩
theorem feedP_bad {all : List UInt8} {limit : Nat} {mode : Int} {bad : Nat} (h : bad ≠ 0 ∨ all.length < 48) : feedP all limit mode bad = ⟨all, bad, false, 0, [], rdNo 0⟩ := by unfold feedP; rw [if_pos h]
theorem feedP_lim {all : List UInt8} {limit : Nat} {mode : Int} (h : 48 ≤ all.length) (hd : limit < dN all) : feedP all limit mode 0 = ⟨[], 4, false, 4, [], rdNo 0⟩ := by
  unfold feedP; rw [if_neg (by omega), if_pos hd]
theorem feedP_few {all : List UInt8} {limit : Nat} {mode : Int} (h : 48 ≤ all.length) (hd : ¬ limit < dN all) (hs : all.length < (sizeP all mode).1) : feedP all limit mode 0 = ⟨all, 0, false, 0, [], rdNo 0⟩ := by
  unfold feedP; rw [if_neg (by omega), if_neg hd, if_pos hs]
theorem feedP_spoilt {all : List UInt8} {limit : Nat} {mode : Int} (h : 48 ≤ all.length) (hd : ¬ limit < dN all) (hs : ¬ all.length < (sizeP all mode).1) (he : (readP (all.take (sizeP all mode).1) mode).e = 13) :
    feedP all limit mode 0 = ⟨all.drop (sizeP all mode).1, 0, true, 0, all.take 48, rdNo 0⟩ := by
  unfold feedP; rw [if_neg (by omega), if_neg hd, if_neg hs, if_pos he]
theorem feedP_err {all : List UInt8} {limit : Nat} {mode : Int} (h : 48 ≤ all.length) (hd : ¬ limit < dN all) (hs : ¬ all.length < (sizeP all mode).1) (he : (readP (all.take (sizeP all mode).1) mode).e ≠ 13) (h0 : (readP (all.take (sizeP all mode).1) mode).e ≠ 0) :
    feedP all limit mode 0 = ⟨[], (readP (all.take (sizeP all mode).1) mode).e, false, (readP (all.take (sizeP all mode).1) mode).e, [], rdNo 0⟩ := by
  unfold feedP; rw [if_neg (by omega), if_neg hd, if_neg hs, if_neg he, if_pos h0]
theorem feedP_good {all : List UInt8} {limit : Nat} {mode : Int} (h : 48 ≤ all.length) (hd : ¬ limit < dN all) (hs : ¬ all.length < (sizeP all mode).1) (h0 : (readP (all.take (sizeP all mode).1) mode).e = 0) :
    feedP all limit mode 0 = ⟨all.drop (sizeP all mode).1, 0, true, 0, [], readP (all.take (sizeP all mode).1) mode⟩ := by
  unfold feedP; rw [if_neg (by omega), if_neg hd, if_neg hs, if_neg (by omega), if_neg (by omega)]
section
variable (g limit : Nat) (mode : Int) (kept : List UInt8) (bad : Nat) (w : World) (hB : FeedB w g kept limit mode bad) (hl : kept.length ≤ 1000000) (hm : 0 ≤ mode ∧ mode ≤ 3) (hlim : limit ≤ 100000) (hg : EType w) (hT : AS w) (hP : PT w)
include hB hl hm hlim hg hT hP
set_option maxHeartbeats 8000000 in
theorem fnext_any : Calls Tryz.prog 14 #[.pointer (some ⟨g, 0, none⟩)] w fun e w' => FNextPost (feedP kept limit mode bad) g limit mode w e w' := by
  have hgw : g < w.heap.size := Blk.lt hB
  have hA := (Below.refl w.heap.size w).alloc (Nat.le_refl _) (.cells #[.int .i64 0, .bool false, .int .i64 0, .slice none 0 0, .slice none 0 0, .string ⟨#[]⟩, .string ⟨#[]⟩] 42)
  have R1 := Blk.new w 42 #[.int .i64 0, .bool false, .int .i64 0, .slice none 0 0, .slice none 0 0, .string ⟨#[]⟩, .string ⟨#[]⟩]
  have B1 := Blk.below hB hA
  have G1 := World.grownBy_alloc w (.cells #[.int .i64 0, .bool false, .int .i64 0, .slice none 0 0, .slice none 0 0, .string ⟨#[]⟩, .string ⟨#[]⟩] 42) (some g)
  have c0 := (Blk.cell hB 0).trans (rfl : _ = some (Value.string (bs kept)))
  have c1 := (Blk.cell hB 1).trans (rfl : _ = some (Value.int .i64 (limit : Int)))
  have c2 := (Blk.cell hB 2).trans (rfl : _ = some (Value.int .i64 mode))
  have c3 := (Blk.cell hB 3).trans (rfl : _ = some (errV 31 bad))
  by_cases h1 : bad ≠ 0 ∨ kept.length < 48
  · have hR := feedP_bad (limit := limit) (mode := mode) h1
    have hE : FNextPost (feedP kept limit mode bad) g limit mode w (.returned (.tuple #[pieceV 0 false 0 (.slice none 0 0) (.slice none 0 0) [] [], .bool false, .nilIface])) (w.alloc (.cells #[.int .i64 0, .bool false, .int .i64 0, .slice none 0 0, .slice none 0 0, .string ⟨#[]⟩, .string ⟨#[]⟩] 42)) := by
      rw [hR]
      exact ⟨_, _, rfl, sl_nil _ _, sl_nil _ _, B1, G1⟩
    have H := hid hB; clear hB
    generalize feedP kept limit mode bad = R at *
    have HE := hid hE; have HR := hid R1
    clear hA R1 B1 G1 hg hT hP hE hR
    by_cases hb : bad = 0
    · subst hb
      have h48 : kept.length < 48 := by omega
      have hd : decide ((kept.length : Int) < 48) = true := decide_eq_true (by omega)
      rw [errV_zero] at c3
      clear h1
      go_enter Tryz.func14, Tryz.ntmps14
      go_wp2
      have T0 := HR.out
      have t0 := (T0.cell 0).trans (rfl : _ = some (Value.int .i64 0))
      have t1 := (T0.cell 1).trans (rfl : _ = some (Value.bool false))
      have t2 := (T0.cell 2).trans (rfl : _ = some (Value.int .i64 0))
      have t3 := (T0.cell 3).trans (rfl : _ = some (Value.slice none 0 0))
      have t4 := (T0.cell 4).trans (rfl : _ = some (Value.slice none 0 0))
      have t5 := (T0.cell 5).trans (rfl : _ = some (Value.string ⟨#[]⟩))
      have t6 := (T0.cell 6).trans (rfl : _ = some (Value.string ⟨#[]⟩))
      clear T0
      refine bodyPost_ret (v := .tuple #[pieceV 0 false 0 (.slice none 0 0) (.slice none 0 0) [] [], .bool false, .nilIface]) (by simp [results, Tryz.results14, go_sem, pieceV, t0, t1, t2, t3, t4, t5, t6]; first | done | rfl) rfl ?_
      exact HE.out
    · rw [errV_pos _ _ (by omega)] at c3
      clear h1
      go_enter Tryz.func14, Tryz.ntmps14
      go_wp2
      have T0 := HR.out
      have t0 := (T0.cell 0).trans (rfl : _ = some (Value.int .i64 0))
      have t1 := (T0.cell 1).trans (rfl : _ = some (Value.bool false))
      have t2 := (T0.cell 2).trans (rfl : _ = some (Value.int .i64 0))
      have t3 := (T0.cell 3).trans (rfl : _ = some (Value.slice none 0 0))
      have t4 := (T0.cell 4).trans (rfl : _ = some (Value.slice none 0 0))
      have t5 := (T0.cell 5).trans (rfl : _ = some (Value.string ⟨#[]⟩))
      have t6 := (T0.cell 6).trans (rfl : _ = some (Value.string ⟨#[]⟩))
      clear T0
      refine bodyPost_ret (v := .tuple #[pieceV 0 false 0 (.slice none 0 0) (.slice none 0 0) [] [], .bool false, .nilIface]) (by simp [results, Tryz.results14, go_sem, pieceV, t0, t1, t2, t3, t4, t5, t6]; first | done | rfl) rfl ?_
      exact HE.out
  · have hb : bad = 0 := by omega
    subst hb
    have h48 : 48 ≤ kept.length := by omega
    have hd : decide ((kept.length : Int) < 48) = false := decide_eq_false (by omega)
    rw [errV_zero] at c3
    clear h1
    obtain ⟨x5, hx5⟩ : ∃ x, kept[5]'(by omega) = x := ⟨_, rfl⟩
    obtain ⟨x6, hx6⟩ : ∃ x, kept[6]'(by omega) = x := ⟨_, rfl⟩
    obtain ⟨x7, hx7⟩ : ∃ x, kept[7]'(by omega) = x := ⟨_, rfl⟩
    have hl5 : 5 < kept.length := by omega
    have hl6 : 6 < kept.length := by omega
    have hl7 : 7 < kept.length := by omega
    have hi5 : (5 : Int) < (kept.length : Int) := by omega
    have hi6 : (6 : Int) < (kept.length : Int) := by omega
    have hi7 : (7 : Int) < (kept.length : Int) := by omega
    have e5 : dN kept = num [x5, x6, x7] := by
      unfold dN
      have : (kept.drop 5).take 3 = [x5, x6, x7] := by
        rw [List.drop_eq_getElem_cons hl5, List.drop_eq_getElem_cons hl6, List.drop_eq_getElem_cons hl7, hx5, hx6, hx7]
        rfl
      rw [this]
    have hx5l := x5.toNat_lt; have hx6l := x6.toNat_lt; have hx7l := x7.toNat_lt
    have hx5w : IntKind.i64.wrap (x5.toNat : Int) = (x5.toNat : Int) := by rw [IntKind.wrap_i64]; omega
    have hx6w : IntKind.i64.wrap (x6.toNat : Int) = (x6.toNat : Int) := by rw [IntKind.wrap_i64]; omega
    have hx7w : IntKind.i64.wrap (x7.toNat : Int) = (x7.toNat : Int) := by rw [IntKind.wrap_i64]; omega
    have hx5s : IntKind.i64.wrap ((x5.toNat : Int) * 65536) = (x5.toNat : Int) * 65536 := by rw [IntKind.wrap_i64]; omega
    have hx6s : IntKind.i64.wrap ((x6.toNat : Int) * 256) = (x6.toNat : Int) * 256 := by rw [IntKind.wrap_i64]; omega
    have hor := or3 x5 x6 x7
    rw [← e5] at hor
    have H := hid hB; clear hB
    have hRl := hid (fun h => @feedP_lim kept limit mode h48 h)
    have hRf := hid (fun h h' => @feedP_few kept limit mode h48 h h')
    have hRs := hid (fun h h' h'' => @feedP_spoilt kept limit mode h48 h h' h'')
    have hRe := hid (fun h h' h'' h3 => @feedP_err kept limit mode h48 h h' h'' h3)
    have hRg := hid (fun h h' h'' => @feedP_good kept limit mode h48 h h' h'')
    generalize feedP kept limit mode 0 = R at *
    have HA := hid hA; have HR := hid R1; have HB := hid B1; have HG := hid G1; have HG1 := hid hg; have HT1 := hid hT; have HP1 := hid hP
    clear hA R1 B1 G1 hg hT hP
    have hmx : Tryz.prog.follows .mixedOrders = true := by kernel_rfl
    go_enter Tryz.func14, Tryz.ntmps14
    go_wp2_with fail
    go_quiet (fail)
    have R2 : Blk ((w.alloc (.cells #[.int .i64 0, .bool false, .int .i64 0, .slice none 0 0, .slice none 0 0, .string ⟨#[]⟩, .string ⟨#[]⟩] 42)).drewN nq) w.heap.size 42 #[.int .i64 0, .bool false, .int .i64 0, .slice none 0 0, .slice none 0 0, .string ⟨#[]⟩, .string ⟨#[]⟩] := HR.out
    have B2 : FeedB ((w.alloc (.cells #[.int .i64 0, .bool false, .int .i64 0, .slice none 0 0, .slice none 0 0, .string ⟨#[]⟩, .string ⟨#[]⟩] 42)).drewN nq) g kept limit mode 0 := HB.out
    have A2 : Below w.heap.size w ((w.alloc (.cells #[.int .i64 0, .bool false, .int .i64 0, .slice none 0 0, .slice none 0 0, .string ⟨#[]⟩, .string ⟨#[]⟩] 42)).drewN nq) := below_drewN HA.out _
    have G2 := grownL A2 (Nat.le_refl _) (some g)
    clear HR HB HG HA c0 c1 c2 c3
    rw [← e5]
    clear e5 hor hx5 hx6 hx7 hx5w hx6w hx7w hx5s hx6s hx5l hx6l hx7l hl5 hl6 hl7 hi5 hi6 hi7
    generalize (w.alloc (.cells #[.int .i64 0, .bool false, .int .i64 0, .slice none 0 0, .slice none 0 0, .string ⟨#[]⟩, .string ⟨#[]⟩] 42)).drewN nq = w2 at *
    have c0 := (Blk.cell B2 0).trans (rfl : _ = some (Value.string (bs kept)))
    have c1 := (Blk.cell B2 1).trans (rfl : _ = some (Value.int .i64 (limit : Int)))
    have c2 := (Blk.cell B2 2).trans (rfl : _ = some (Value.int .i64 mode))
    have c3 := (Blk.cell B2 3).trans (rfl : _ = some Value.nilIface)
    obtain ⟨r, hr⟩ : ∃ r, w.heap.size = r := ⟨_, rfl⟩
    rw [hr]
    have hrw : w.heap.size ≤ r := by omega
    have hgr : g ≠ r := by omega
    rw [hr] at R2
    generalize hN3 : dN kept = N3 at *
    by_cases hlm : limit < N3
    · have hd2 : decide ((limit : Int) < (N3 : Int)) = true := decide_eq_true (by omega)
      have cf := hid (ffail_any g kept limit mode 0 4 w2 B2 (by omega))
      rw [errV_pos _ _ (by omega)] at cf
      have hR := hRl.out hlm
      clear hRl hRf hRs hRe hRg
      go_wp2_with fail
      refine cf.out.mono ?_
      rintro e w3 ⟨rfl, B3, G3⟩
      have R3 := R2.only G3 (fun e => hgr e.symm)
      have G3 := grownT G2 G3
      clear c0 c1 c2 c3 R2 B2 G2 cf
      have v0 := R3.free 0
      have v1 := R3.free 1
      have v2 := R3.free 2
      have v3 := R3.free 3
      have v4 := R3.free 4
      have v5 := R3.free 5
      have v6 := R3.free 6
      have u0 := (R3.cell 0).trans (rfl : _ = some (Value.int .i64 0))
      have u1 := (R3.cell 1).trans (rfl : _ = some (Value.bool false))
      have u2 := (R3.cell 2).trans (rfl : _ = some (Value.int .i64 0))
      have u3 := (R3.cell 3).trans (rfl : _ = some (Value.slice none 0 0))
      have u4 := (R3.cell 4).trans (rfl : _ = some (Value.slice none 0 0))
      have u5 := (R3.cell 5).trans (rfl : _ = some (Value.string ⟨#[]⟩))
      have u6 := (R3.cell 6).trans (rfl : _ = some (Value.string ⟨#[]⟩))
      obtain ⟨W4, hW4, T4, F4, G4, -, -⟩ := piece_lay (sa := none) (aa := none) (d := []) (s := []) R3 hrw hgw B3 G3 (.int .i64 0) (.bool false) (.int .i64 0) (.slice none 0 0) (.slice none 0 0) (.string (bs [])) (.string (bs []))
      unfold pieceV
      have HT4 := hid T4; clear T4
      go_wp2
      try rw [hW4]
      clear hW4 u0 u1 u2 u3 u4 u5 u6 v0 v1 v2 v3 v4 v5 v6
      have T0 := HT4.out
      have t0 := (T0.cell 0).trans (rfl : _ = some (Value.int .i64 0))
      have t1 := (T0.cell 1).trans (rfl : _ = some (Value.bool false))
      have t2 := (T0.cell 2).trans (rfl : _ = some (Value.int .i64 0))
      have t3 := (T0.cell 3).trans (rfl : _ = some (Value.slice none 0 0))
      have t4 := (T0.cell 4).trans (rfl : _ = some (Value.slice none 0 0))
      have t5 := (T0.cell 5).trans (rfl : _ = some (Value.string (bs [])))
      have t6 := (T0.cell 6).trans (rfl : _ = some (Value.string (bs [])))
      clear T0
      refine bodyPost_ret (v := .tuple #[pieceV 0 false 0 (.slice none 0 0) (.slice none 0 0) [] [], .bool false, .iface 31 (.int .i64 ((4 : Nat) : Int))]) (by simp [results, Tryz.results14, go_sem, pieceV, t0, t1, t2, t3, t4, t5, t6]; first | done | rfl) rfl ?_
      rw [hR]
      exact ⟨_, _, by first | rfl | (rw [errV_pos _ _ (by omega)]; rfl), sl_nil _ _, sl_nil _ _, F4, G4⟩
    · have hd2 : decide ((limit : Int) < (N3 : Int)) = false := decide_eq_false (by omega)
      have hz2 : (sizeP kept mode).2 = 0 := by unfold sizeP; rw [if_neg (by omega), if_neg (by omega)]
      have cs := fun W => hid (size_any kept mode W (by omega) (by omega) (by omega))
      have hz48 : 48 ≤ (sizeP kept mode).1 := by
        unfold sizeP; rw [if_neg (by omega), if_neg (by omega)]; unfold allN; simp only; omega
      rw [hz2] at cs
      simp only [errV_zero] at cs
      have hRf := hid (hRf.out hlm); have hRs := hid (hRs.out hlm); have hRe := hid (hRe.out hlm); have hRg := hid (hRg.out hlm)
      clear hRl hz2
      generalize (sizeP kept mode).1 = z at *
      go_wp2_with fail
      refine wpIn_wide (n := 4).1 ?_
      refine region_puts (aF := ?kA) [(61, .pointer (some ⟨g, 0, none⟩)), (62, .pointer (some ⟨g, 0, none⟩)), (63, .pointer (some ⟨g, 0, none⟩)), (64, .string (bs kept)), (65, .pointer (some ⟨g, 0, none⟩)), (66, .pointer (some ⟨g, 0, none⟩)), (67, .pointer (some ⟨g, 2, none⟩)), (68, .int .i64 mode), (69, .tuple #[.int .i64 (z : Int), .nilIface]), (60, .tuple #[.int .i64 (z : Int), .nilIface]), (70, .int .i64 (z : Int)), (71, .nilIface), (6, .int .i64 (z : Int)), (7, .nilIface)] (fun W => Below w2.heap.size w2 W) ?kB hmx (by kernel_rfl) (by kernel_rfl) (fun w w' h hb => h.trans (hb.mono h.size)) (Below.refl _ _).drew ?kC ?kD
      case kB =>
        simp only [putAll, List.foldl_cons, List.foldl_nil, List.setIfInBounds_toArray, List.set_cons_zero, List.set_cons_succ]
        exact rfl
      case kC =>
        have hrf : ∀ w : World, Below w.heap.size w w := fun w => Below.refl _ w
        have hg2 : g < w2.heap.size := Blk.lt B2
        refine ⟨?_, ?_, ?_, ?_, ?_, ?_, ?_, ?_, ?_, ?_, ?_, ?_, ?_, ?_, trivial⟩
        all_goals refine ⟨by simp, fun W h => ⟨?_, ?_⟩⟩
        all_goals first
          | (simp [go_sem, Oper.about]; done)
          | (simp [go_sem, Oper.about]; exact trivial)
          | skip
        all_goals
          have d0 := (h.cell (p := ⟨g, 0, none⟩) hg2).trans c0
          have d2 := (h.cell (p := ⟨g, 2, none⟩) hg2).trans c2
        all_goals first
          | (simp [OpTo, go_sem, hrf, d0, d2]; done)
          | skip
        all_goals
          have hc := (cs W).out
          simp [OpTo, go_sem]
          refine callsIn_wide.2 (hc.mono ?_)
          rintro e _ ⟨rfl, hb⟩
          exact ⟨rfl, hb⟩
      case kD =>
        intro w3 hW3
        have R3 := R2.below hW3
        have B3 := Blk.below B2 hW3
        have G3 := grownT G2 (grownL hW3 (Nat.le_refl _) (some g))
        have A3 := A2.trans (hW3.mono A2.size)
        clear R2 B2 G2 A2 c0 c1 c2 c3 hW3 cs
        have c0 := (Blk.cell B3 0).trans (rfl : _ = some (Value.string (bs kept)))
        have c2 := (Blk.cell B3 2).trans (rfl : _ = some (Value.int .i64 mode))
        gi_wp2
        by_cases hfew : kept.length < z
        · have hd3 : decide ((kept.length : Int) < (z : Int)) = true := decide_eq_true (by omega)
          have hR := hRf.out hfew
          clear hRf hRs hRe hRg
          have v0 := R3.free 0
          have v1 := R3.free 1
          have v2 := R3.free 2
          have v3 := R3.free 3
          have v4 := R3.free 4
          have v5 := R3.free 5
          have v6 := R3.free 6
          have u0 := (R3.cell 0).trans (rfl : _ = some (Value.int .i64 0))
          have u1 := (R3.cell 1).trans (rfl : _ = some (Value.bool false))
          have u2 := (R3.cell 2).trans (rfl : _ = some (Value.int .i64 0))
          have u3 := (R3.cell 3).trans (rfl : _ = some (Value.slice none 0 0))
          have u4 := (R3.cell 4).trans (rfl : _ = some (Value.slice none 0 0))
          have u5 := (R3.cell 5).trans (rfl : _ = some (Value.string ⟨#[]⟩))
          have u6 := (R3.cell 6).trans (rfl : _ = some (Value.string ⟨#[]⟩))
          obtain ⟨W4, hW4, T4, F4, G4, -, -⟩ := piece_lay (sa := none) (aa := none) (d := []) (s := []) R3 hrw hgw B3 G3 (.int .i64 0) (.bool false) (.int .i64 0) (.slice none 0 0) (.slice none 0 0) (.string ⟨#[]⟩) (.string ⟨#[]⟩)
          have HT4 := hid T4; clear T4
          go_wp2
          try rw [hW4]
          clear hW4 u0 u1 u2 u3 u4 u5 u6 v0 v1 v2 v3 v4 v5 v6
          have T0 := HT4.out
          have t0 := (T0.cell 0).trans (rfl : _ = some (Value.int .i64 0))
          have t1 := (T0.cell 1).trans (rfl : _ = some (Value.bool false))
          have t2 := (T0.cell 2).trans (rfl : _ = some (Value.int .i64 0))
          have t3 := (T0.cell 3).trans (rfl : _ = some (Value.slice none 0 0))
          have t4 := (T0.cell 4).trans (rfl : _ = some (Value.slice none 0 0))
          have t5 := (T0.cell 5).trans (rfl : _ = some (Value.string ⟨#[]⟩))
          have t6 := (T0.cell 6).trans (rfl : _ = some (Value.string ⟨#[]⟩))
          clear T0
          refine bodyPost_ret (v := .tuple #[pieceV 0 false 0 (.slice none 0 0) (.slice none 0 0) [] [], .bool false, .nilIface]) (by simp [results, Tryz.results14, go_sem, pieceV, t0, t1, t2, t3, t4, t5, t6]; first | done | rfl) rfl ?_
          rw [hR]
          exact ⟨_, _, rfl, sl_nil _ _, sl_nil _ _, F4, G4⟩
        · have hd3 : decide ((kept.length : Int) < (z : Int)) = false := decide_eq_false (by omega)
          have cr := fun W (hb : Below w.heap.size w W) => hid (pduRead_any (kept.take z) mode W (by simp; omega) (by omega) (by omega) (HG1.out.below hb) (HT1.out.below hb (Nat.le_refl _)) (HP1.out.below hb (Nat.le_refl _)))
          unfold PduRdPost at cr
          have hRs := hid (hRs.out hfew); have hRe := hid (hRe.out hfew); have hRg := hid (hRg.out hfew)
          clear hRf
          have htk : (bs kept).extract 0 z = bs (kept.take z) := by rw [bs_extract]; rfl
          have hzl : z ≤ kept.length := by omega
          have hzi : (z : Int) ≤ (kept.length : Int) := by omega
          generalize readP (kept.take z) mode = RD at *
          go_wp2_with fail
          refine wpIn_wide (n := 4).1 ?_
          refine region_ghost (G := (Option Addr × Nat) × (Option Addr × Nat) × Nat)
            (fun y => [(81, .pointer (some ⟨g, 0, none⟩)), (82, .pointer (some ⟨g, 0, none⟩)), (83, .pointer (some ⟨g, 0, none⟩)), (84, .string (bs kept)), (85, .int .i64 (z : Int)), (86, .string (bs (kept.take z))), (87, .pointer (some ⟨g, 0, none⟩)), (88, .pointer (some ⟨g, 0, none⟩)), (89, .pointer (some ⟨g, 2, none⟩)), (90, .int .i64 mode), (91, .tuple #[.agg #[.int .i64 RD.op, .bool RD.now, .int .i64 RD.flags, .slice y.1.1 RD.vals.length y.1.2, .slice y.2.1.1 RD.ahs.length y.2.1.2, .string (bs RD.data)], .int .i64 RD.all, errV 31 RD.e]), (80, .tuple #[.agg #[.int .i64 RD.op, .bool RD.now, .int .i64 RD.flags, .slice y.1.1 RD.vals.length y.1.2, .slice y.2.1.1 RD.ahs.length y.2.1.2, .string (bs RD.data)], .int .i64 RD.all, errV 31 RD.e]), (92, .agg #[.int .i64 RD.op, .bool RD.now, .int .i64 RD.flags, .slice y.1.1 RD.vals.length y.1.2, .slice y.2.1.1 RD.ahs.length y.2.1.2, .string (bs RD.data)]), (93, .int .i64 RD.all), (94, errV 31 RD.e), (8, .pointer (some ⟨y.2.2, 0, none⟩)), (9, .int .i64 RD.all), (10, errV 31 RD.e)])
            (fun d y W => Below w3.heap.size w3 W ∧ (d 10 = true → Sl W (.slice y.1.1 RD.vals.length y.1.2) 1 RD.vals.length (u64Cells RD.vals) ∧ Sl W (.slice y.2.1.1 RD.ahs.length y.2.1.2) 2 RD.ahs.length (ahsCells RD.ahs)) ∧
              (d 15 = true → w3.heap.size ≤ y.2.2 ∧ Blk W y.2.2 40 (if d 16 = true then #[.int .i64 RD.op, .bool RD.now, .int .i64 RD.flags, .slice y.1.1 RD.vals.length y.1.2, .slice y.2.1.1 RD.ahs.length y.2.1.2, .string (bs RD.data)] else #[.int .i64 0, .bool false, .int .i64 0, .slice none 0 0, .slice none 0 0, .string (bs [])])) ∧ (d 16 = true → d 15 = true ∧ d 10 = true))
            ((none, 0), (none, 0), 0) (aF := ?kA9) ?kB9 hmx [81, 82, 83, 84, 85, 86, 87, 88, 89, 90, 91, 80, 92, 93, 94, 8, 9, 10] (fun _ => rfl) (by kernel_rfl) (by kernel_rfl) ⟨(Below.refl _ _).drew, by simp, by simp, by simp⟩ ?kE ?kQ
          case kB9 =>
            intro y
            simp only [putAll, List.foldl_cons, List.foldl_nil, List.setIfInBounds_toArray, List.set_cons_zero, List.set_cons_succ]
            exact rfl
          case kE =>
            have hg3 : g < w3.heap.size := Blk.lt B3
            refine ⟨?o0, ?o1, ?o2, ?o3, ?o4, ?o5, ?o6, ?o7, ?o8, ?o9, ?o10, ?o11, ?o12, ?o13, ?o14, ?o15, ?o16, ?o17, ?o18, trivial⟩
            all_goals refine ⟨by simp, fun d y W hC hd hdep => ⟨by first | (simp [go_sem, Oper.about]; done) | (simp [go_sem, Oper.about]; exact trivial), ?_⟩⟩
            case o10 =>
              have hc := (cr W (A3.trans (hC.1.mono A3.size))).out
              refine opGhost_call (f := 51) (args := #[.string (bs (kept.take z)), .int .i64 mode]) (w' := W) (by simp [go_sem]) rfl (by simp) (callsIn_wide.2 (hc.mono ?_))
              rintro e W2 ⟨v, av, rfl, hv, hav, hb2⟩
              have hv0 := hv
              have hav0 := hav
              obtain ⟨sa, sc, rfl, _⟩ := hv
              obtain ⟨aa, ac, rfl, _⟩ := hav
              have h16f : d 16 = false := by
                cases hq : d 16 with
                | false => rfl
                | true =>
                  have := (hC.2.2.2 hq).2
                  have hd' : d 10 = false := hd
                  rw [hd'] at this; cases this
              refine ⟨((sa, sc), (aa, ac), y.2.2), by simp [go_sem, pduV], .inr ⟨[91, 80, 92], by kernel_rfl, by simp [AgreeOff]⟩, hC.1.trans (hb2.mono hC.1.size), fun _ => ⟨hv0, hav0⟩, fun h15 => ?_, fun h16 => ?_⟩
              · obtain ⟨q1, q2⟩ := hC.2.2.1 h15
                rw [if_neg (by rw [h16f]; simp)] at q2
                refine ⟨q1, ?_⟩
                have e16 : also d 10 16 = false := h16f
                rw [if_neg (by show ¬ also d 10 16 = true; rw [e16]; simp)]
                exact q2.below hb2
              · have e16 : also d 10 16 = false := h16f
                have h16' : also d 10 16 = true := h16
                rw [e16] at h16'; cases h16'
            case o15 =>
              have h16f : d 16 = false := by
                cases hq : d 16 with
                | false => rfl
                | true =>
                  have := (hC.2.2.2 hq).1
                  have hd' : d 15 = false := hd
                  rw [hd'] at this; cases this
              have hAl := (Below.refl W.heap.size W).alloc (Nat.le_refl _) (.cells #[.int .i64 0, .bool false, .int .i64 0, .slice none 0 0, .slice none 0 0, .string ⟨#[]⟩] 40)
              have e16 : also d 15 16 = false := h16f
              refine opGhost_new (y.1, y.2.1, W.heap.size) [8] (w' := W.alloc (.cells #[.int .i64 0, .bool false, .int .i64 0, .slice none 0 0, .slice none 0 0, .string ⟨#[]⟩] 40)) (by simp [go_sem]) rfl (by kernel_rfl) (by simp [AgreeOff]) ⟨hC.1.trans (hAl.mono hC.1.size), fun h10 => ?_, fun _ => ⟨hC.1.size, ?_⟩, fun h16 => ?_⟩
              · obtain ⟨q1, q2⟩ := hC.2.1 h10
                exact ⟨q1.below (by omega) hAl, q2.below (by omega) hAl⟩
              · rw [if_neg (by show ¬ also d 15 16 = true; rw [e16]; simp)]
                exact Blk.new W _ _
              · have h16' : also d 15 16 = true := h16
                rw [e16] at h16'; cases h16'
            case o16 =>
              have hd' : d 16 = false := hd
              simp [Region.binds] at hdep
              have d15 : d 15 = true := by simp [hdep]
              have d10 : d 10 = true := by simp [hdep]
              clear hdep
              obtain ⟨q1, q2⟩ := hC.2.2.1 d15
              obtain ⟨s1, s2⟩ := hC.2.1 d10
              rw [if_neg (by rw [hd']; simp)] at q2
              have v0 := q2.free 0
              have v1 := q2.free 1
              have v2 := q2.free 2
              have v3 := q2.free 3
              have v4 := q2.free 4
              have v5 := q2.free 5
              have t0 := (q2.cell 0).trans (rfl : _ = some (Value.int .i64 0))
              have t1 := (q2.cell 1).trans (rfl : _ = some (Value.bool false))
              have t2 := (q2.cell 2).trans (rfl : _ = some (Value.int .i64 0))
              have t3 := (q2.cell 3).trans (rfl : _ = some (Value.slice none 0 0))
              have t4 := (q2.cell 4).trans (rfl : _ = some (Value.slice none 0 0))
              have t5 := (q2.cell 5).trans (rfl : _ = some (Value.string (bs [])))
              have f1 := vals_far s1 (op := 0) (now := false) (fl := 0) (sa := none) (aa := none) (n := 0) (c := 0) (m := 0) (k := 0) (d := bs []) q2
              have f2 := ahs_far s2 (op := 0) (now := false) (fl := 0) (sa := none) (aa := none) (n := 0) (c := 0) (m := 0) (k := 0) (d := bs []) q2
              have e16 : also d 16 16 = true := by unfold also; simp
              refine opGhost_store (w' := (((((W.setCell ⟨y.2.2, 0, none⟩ (.int .i64 RD.op)).setCell ⟨y.2.2, 1, none⟩ (.bool RD.now)).setCell ⟨y.2.2, 2, none⟩ (.int .i64 RD.flags)).setCell ⟨y.2.2, 3, none⟩ (.slice y.1.1 RD.vals.length y.1.2)).setCell ⟨y.2.2, 4, none⟩ (.slice y.2.1.1 RD.ahs.length y.2.1.2)).setCell ⟨y.2.2, 5, none⟩ (.string (bs RD.data)))
                (by simp [go_sem, v0, v1, v2, v3, v4, v5, t0, t1, t2, t3, t4, t5]) rfl ⟨?_, fun _ => ⟨?_, ?_⟩, fun _ => ⟨q1, ?_⟩, fun _ => ⟨d15, d10⟩⟩
              · iterate 6 refine below_setc ?_ q1 _ _
                exact hC.1
              · exact sl_set (sl_set (sl_set (sl_set (sl_set (sl_set s1 y.2.2 0 _ f1) y.2.2 1 _ f1) y.2.2 2 _ f1) y.2.2 3 _ f1) y.2.2 4 _ f1) y.2.2 5 _ f1
              · exact sl_set (sl_set (sl_set (sl_set (sl_set (sl_set s2 y.2.2 0 _ f2) y.2.2 1 _ f2) y.2.2 2 _ f2) y.2.2 3 _ f2) y.2.2 4 _ f2) y.2.2 5 _ f2
              · rw [if_pos (by show also d 16 16 = true; exact e16)]
                exact (((((q2.set 0 _).set 1 _).set 2 _).set 3 _).set 4 _).set 5 _
            all_goals
              have d0 := (hC.1.cell (p := ⟨g, 0, none⟩) hg3).trans c0
              have d2 := (hC.1.cell (p := ⟨g, 2, none⟩) hg3).trans c2
            case o17 => exact opGhost_same (by simp [go_sem]) rfl hC
            case o0 => exact opGhost_same (by simp [go_sem]) rfl hC
            case o3 => exact opGhost_same (by simp [go_sem, d0]) rfl hC
            case o5 => exact opGhost_same (by simp [go_sem, hzl, hzi]) rfl hC
            all_goals exact opGhost_same (by simp [go_sem, d0, d2, hzl, hzi]) rfl hC
          case kQ =>
            rintro d ⟨⟨sa, sc⟩, ⟨aa, ac⟩, x⟩ w4 hall ⟨hW4, hS, hX, -⟩
            have d10 := hall 10 (by simp)
            have d15 := hall 15 (by simp)
            have d16 := hall 16 (by simp)
            obtain ⟨V4, I4⟩ := hS d10
            obtain ⟨hx3, X4⟩ := hX d15
            rw [if_pos d16] at X4
            simp only at V4 I4 hx3 X4
            clear hS hX hall d10 d15 d16
            have ct := hid (tell_any (errV 31 RD.e) RD.e (-1) w4 (HG1.out.below (A3.trans (hW4.mono A3.size))) (ErrIs.errV w4 RD.e))
            have hr3 : r < w3.heap.size := R3.lt
            have hg3 : g < w3.heap.size := Blk.lt B3
            gi_wp2
            go_wp2_with fail
            refine ct.out.mono ?_
            rintro e w5 ⟨rfl, hb5⟩
            have W5 := hW4.trans (hb5.mono hW4.size)
            have R5 := R3.below W5
            have B5 := Blk.below B3 W5
            have G5 := grownT G3 (grownL W5 (Nat.le_refl _) (some g))
            have V5 := V4.below (by omega) hb5
            have I5 := I4.below (by omega) hb5
            have X5 := X4.below hb5
            clear R3 B3 G3 c0 c2 hW4 hb5 V4 I4 X4 ct cr W5
            have c0 := (Blk.cell B5 0).trans (rfl : _ = some (Value.string (bs kept)))
            have f0 := Blk.free B5 0
            have c3 := (Blk.cell B5 3).trans (rfl : _ = some Value.nilIface)
            have hxg : x ≠ g := by omega
            have hxr : x ≠ r := by omega
            by_cases h13 : RD.e = 13
            · have hR := hRs.out h13
              clear hRs hRe hRg
              rw [h13]
              obtain ⟨F6, S6, U6⟩ := feed_kept (w := w) B5 (kept.drop z)
              have R6 := blk_off R5 0 (.string (bs (kept.drop z))) (fun e => hgr e.symm)
              have G6 := grownF G5 0 (.string (bs (kept.drop z)))
              obtain ⟨W6, hW6⟩ : ∃ W6, w5.setCell ⟨g, 0, none⟩ (.string (bs (kept.drop z))) = W6 := ⟨_, rfl⟩
              rw [hW6] at F6 R6 G6
              clear S6 U6 V5 I5 X5 R5
              have v0 := R6.free 0
              have v1 := R6.free 1
              have v2 := R6.free 2
              have v3 := R6.free 3
              have v4 := R6.free 4
              have v5 := R6.free 5
              have v6 := R6.free 6
              have u0 := (R6.cell 0).trans (rfl : _ = some (Value.int .i64 0))
              have u1 := (R6.cell 1).trans (rfl : _ = some (Value.bool false))
              have u2 := (R6.cell 2).trans (rfl : _ = some (Value.int .i64 0))
              have u3 := (R6.cell 3).trans (rfl : _ = some (Value.slice none 0 0))
              have u4 := (R6.cell 4).trans (rfl : _ = some (Value.slice none 0 0))
              have u5 := (R6.cell 5).trans (rfl : _ = some (Value.string ⟨#[]⟩))
              have u6 := (R6.cell 6).trans (rfl : _ = some (Value.string ⟨#[]⟩))
              obtain ⟨W7, hW7, T7, F7, G7, -, -⟩ := piece_lay (sa := none) (aa := none) (d := []) (s := []) R6 hrw hgw F6 G6 (.int .i64 0) (.bool false) (.int .i64 0) (.slice none 0 0) (.slice none 0 0) (.string ⟨#[]⟩) (.string (bs (kept.take 48)))
              have HT7 := hid T7; clear T7
              have h48' : (48 : Int) ≤ (kept.length : Int) := by omega
              go_wp2
              clear hW7 u0 u1 u2 u3 u4 u5 u6 v0 v1 v2 v3 v4 v5 v6
              have T0 := HT7.out
              have t0 := (T0.cell 0).trans (rfl : _ = some (Value.int .i64 0))
              have t1 := (T0.cell 1).trans (rfl : _ = some (Value.bool false))
              have t2 := (T0.cell 2).trans (rfl : _ = some (Value.int .i64 0))
              have t3 := (T0.cell 3).trans (rfl : _ = some (Value.slice none 0 0))
              have t4 := (T0.cell 4).trans (rfl : _ = some (Value.slice none 0 0))
              have t5 := (T0.cell 5).trans (rfl : _ = some (Value.string ⟨#[]⟩))
              have t6 := (T0.cell 6).trans (rfl : _ = some (Value.string (bs (kept.take 48))))
              clear T0
              refine bodyPost_ret (v := .tuple #[pieceV 0 false 0 (.slice none 0 0) (.slice none 0 0) [] (kept.take 48), .bool true, .nilIface]) (by simp [results, Tryz.results14, go_sem, pieceV, t0, t1, t2, t3, t4, t5, t6]; first | done | rfl) rfl ?_
              rw [hR]
              exact ⟨_, _, rfl, sl_nil _ _, sl_nil _ _, F7, G7⟩
            by_cases h0 : RD.e = 0
            · have hR := hRg.out h0
              clear hRs hRe hRg
              rw [h0, errV_zero]
              obtain ⟨F6, S6, U6⟩ := feed_kept (w := w) B5 (kept.drop z)
              have R6 := blk_off R5 0 (.string (bs (kept.drop z))) (fun e => hgr e.symm)
              have X6 := blk_off X5 0 (.string (bs (kept.drop z))) hxg
              have G6 := grownF G5 0 (.string (bs (kept.drop z)))
              have V6 := S6 _ _ V5
              have I6 := U6 _ _ I5
              obtain ⟨W6, hW6⟩ : ∃ W6, w5.setCell ⟨g, 0, none⟩ (.string (bs (kept.drop z))) = W6 := ⟨_, rfl⟩
              rw [hW6] at F6 R6 G6 V6 I6 X6
              clear S6 U6 V5 I5 X5 R5
              have v0 := R6.free 0
              have v1 := R6.free 1
              have v2 := R6.free 2
              have v3 := R6.free 3
              have v4 := R6.free 4
              have v5 := R6.free 5
              have v6 := R6.free 6
              have u0 := (R6.cell 0).trans (rfl : _ = some (Value.int .i64 0))
              have u1 := (R6.cell 1).trans (rfl : _ = some (Value.bool false))
              have u2 := (R6.cell 2).trans (rfl : _ = some (Value.int .i64 0))
              have u3 := (R6.cell 3).trans (rfl : _ = some (Value.slice none 0 0))
              have u4 := (R6.cell 4).trans (rfl : _ = some (Value.slice none 0 0))
              have u5 := (R6.cell 5).trans (rfl : _ = some (Value.string ⟨#[]⟩))
              have u6 := (R6.cell 6).trans (rfl : _ = some (Value.string ⟨#[]⟩))
              have s0 := (X6.cell 0).trans (rfl : _ = some (Value.int .i64 RD.op))
              have s1 := (X6.cell 1).trans (rfl : _ = some (Value.bool RD.now))
              have s2 := (X6.cell 2).trans (rfl : _ = some (Value.int .i64 RD.flags))
              have s3 := (X6.cell 3).trans (rfl : _ = some (Value.slice sa RD.vals.length sc))
              have s4 := (X6.cell 4).trans (rfl : _ = some (Value.slice aa RD.ahs.length ac))
              have s5 := (X6.cell 5).trans (rfl : _ = some (Value.string (bs RD.data)))
              obtain ⟨W7, hW7, T7, F7, G7, S7, U7⟩ := piece_lay (sa := none) (aa := none) (d := []) (s := []) R6 hrw hgw F6 G6 (.int .i64 RD.op) (.bool RD.now) (.int .i64 RD.flags) (.slice sa RD.vals.length sc) (.slice aa RD.ahs.length ac) (.string (bs RD.data)) (.string ⟨#[]⟩)
              have V7 := S7 _ _ V6
              have I7 := U7 _ _ I6
              have HT7 := hid T7; have HV7 := hid V7; have HI7 := hid I7
              clear T7 V7 I7 V6 I6 S7 U7 X6
              go_wp2
              clear hW7 u0 u1 u2 u3 u4 u5 u6 v0 v1 v2 v3 v4 v5 v6 s0 s1 s2 s3 s4 s5
              have T0 := HT7.out
              have t0 := (T0.cell 0).trans (rfl : _ = some (Value.int .i64 RD.op))
              have t1 := (T0.cell 1).trans (rfl : _ = some (Value.bool RD.now))
              have t2 := (T0.cell 2).trans (rfl : _ = some (Value.int .i64 RD.flags))
              have t3 := (T0.cell 3).trans (rfl : _ = some (Value.slice sa RD.vals.length sc))
              have t4 := (T0.cell 4).trans (rfl : _ = some (Value.slice aa RD.ahs.length ac))
              have t5 := (T0.cell 5).trans (rfl : _ = some (Value.string (bs RD.data)))
              have t6 := (T0.cell 6).trans (rfl : _ = some (Value.string ⟨#[]⟩))
              clear T0
              refine bodyPost_ret (v := .tuple #[pieceV RD.op RD.now RD.flags (.slice sa RD.vals.length sc) (.slice aa RD.ahs.length ac) RD.data [], .bool true, .nilIface]) (by simp [results, Tryz.results14, go_sem, pieceV, t0, t1, t2, t3, t4, t5, t6]; first | done | rfl) rfl ?_
              rw [hR]
              exact ⟨_, _, rfl, HV7.out, HI7.out, F7, G7⟩
            · have hR := hRe.out h13 h0
              have hpos : 0 < RD.e := by omega
              clear hRs hRe hRg
              have cf := hid (ffail_any g kept limit mode 0 RD.e w5 B5 hpos)
              have n13 : ((RD.e : Int) == 13) = false := by rw [beq_eq_false_iff_ne]; omega
              have n0 : ((RD.e : Int) == 0) = false := by rw [beq_eq_false_iff_ne]; omega
              clear V5 I5 X5
              go_wp2_with fail
              refine cf.out.mono ?_
              rintro e w6 ⟨rfl, F6, H6⟩
              have R6 := R5.only H6 (fun e => hgr e.symm)
              have G6 := grownT G5 H6
              clear R5 B5 G5 c0 f0 c3 cf H6
              have v0 := R6.free 0
              have v1 := R6.free 1
              have v2 := R6.free 2
              have v3 := R6.free 3
              have v4 := R6.free 4
              have v5 := R6.free 5
              have v6 := R6.free 6
              have u0 := (R6.cell 0).trans (rfl : _ = some (Value.int .i64 0))
              have u1 := (R6.cell 1).trans (rfl : _ = some (Value.bool false))
              have u2 := (R6.cell 2).trans (rfl : _ = some (Value.int .i64 0))
              have u3 := (R6.cell 3).trans (rfl : _ = some (Value.slice none 0 0))
              have u4 := (R6.cell 4).trans (rfl : _ = some (Value.slice none 0 0))
              have u5 := (R6.cell 5).trans (rfl : _ = some (Value.string ⟨#[]⟩))
              have u6 := (R6.cell 6).trans (rfl : _ = some (Value.string ⟨#[]⟩))
              obtain ⟨W7, hW7, T7, F7, G7, -, -⟩ := piece_lay (sa := none) (aa := none) (d := []) (s := []) R6 hrw hgw F6 G6 (.int .i64 0) (.bool false) (.int .i64 0) (.slice none 0 0) (.slice none 0 0) (.string (bs [])) (.string (bs []))
              have HT7 := hid T7; clear T7
              unfold pieceV
              go_wp2
              try rw [hW7]
              clear hW7 u0 u1 u2 u3 u4 u5 u6 v0 v1 v2 v3 v4 v5 v6
              have T0 := HT7.out
              have t0 := (T0.cell 0).trans (rfl : _ = some (Value.int .i64 0))
              have t1 := (T0.cell 1).trans (rfl : _ = some (Value.bool false))
              have t2 := (T0.cell 2).trans (rfl : _ = some (Value.int .i64 0))
              have t3 := (T0.cell 3).trans (rfl : _ = some (Value.slice none 0 0))
              have t4 := (T0.cell 4).trans (rfl : _ = some (Value.slice none 0 0))
              have t5 := (T0.cell 5).trans (rfl : _ = some (Value.string (bs [])))
              have t6 := (T0.cell 6).trans (rfl : _ = some (Value.string (bs [])))
              clear T0
              refine bodyPost_ret (v := .tuple #[pieceV 0 false 0 (.slice none 0 0) (.slice none 0 0) [] [], .bool false, errV 31 RD.e]) (by simp [results, Tryz.results14, go_sem, pieceV, t0, t1, t2, t3, t4, t5, t6]; first | done | rfl) rfl ?_
              rw [hR]
              exact ⟨_, _, rfl, sl_nil _ _, sl_nil _ _, F7, G7⟩
end
end Go.Proofs.YtfeenkofnbefaaaGreatDoor
