/- The head that 48 bytes are: by the document. -/
import Derived.Test.YtfeenkofnbefaaaGreatDoorInv
import Derived.Test.YtfeenkofnbefaaaGreatDoorHeadRightR
import Derived.Test.YtfeenkofnbefaaaGreatDoorFree
set_option linter.unusedSectionVars false
set_option linter.unusedSimpArgs false
set_option linter.unusedVariables false
namespace Go.Proofs.YtfeenkofnbefaaaGreatDoor
open Go Go.RowKit
set_option linter.unusedVariables false
set_option linter.unusedSectionVars false
set_option linter.unusedSimpArgs false
set_option maxRecDepth 100000
def ReadRPost (R : RdH) (w : World) (e : Ending) (w' : World) : Prop :=
  ∃ v, e = .returned (.tuple #[headV R.op R.now R.flags v, .int .i64 R.words, .int .i64 R.data, .int .i64 (R.e : Nat)]) ∧ Sl w' v 1 R.vals.length (u64Cells R.vals) ∧ Below w.heap.size w w'
theorem unnum_bs (l : List UInt8) (hl : l.length ≤ 8) (w : World) : Calls Tryz.prog 46 #[.string (bs l)] w fun e w' => e = .returned (.tuple #[.int .u64 (num l : Nat), .int .i64 0]) ∧ Below w.heap.size w w' := by
  have hsz : (bs l).size = l.length := by simp [bs, ByteArray.size]
  have := unnumber_any (bs l) w (by omega)
  rwa [if_pos (by omega), show (bs l).data.toList = l by simp [bs]] at this
/-- the bytes that are free behind so many fields -/
def freeL (fs : List FR) (i : Nat) : Bool := decide (i < 2) || (decide (4 ≤ i) && decide (i < 8)) || covers fs i
theorem covers_snoc (fs : List FR) (k : Nat) (f : FR) (h : fs[k]? = some f) (i : Nat) : covers (fs.take (k + 1)) i = (covers (fs.take k) i || (decide (f.at_ ≤ i) && decide (i < f.at_ + f.size))) := by
  obtain ⟨h1, h2⟩ := List.getElem?_eq_some_iff.1 h
  unfold covers
  rw [List.take_succ_eq_append_getElem h1, h2]
  simp
structure KeepTwo (h m : Nat) (W w : World) : Prop where
  size : W.heap.size ≤ w.heap.size
  keep : ∀ b, b < W.heap.size → b ≠ h → b ≠ m → w.heap[b]? = W.heap[b]?
theorem KeepTwo.cell {h m : Nat} {W w : World} (k : KeepTwo h m W w) {p : Addr} (hp : p.block < W.heap.size) (hn : p.block ≠ h) (hm : p.block ≠ m) : w.cell? p = W.cell? p := by
  unfold World.cell?; rw [k.keep _ hp hn hm]
theorem KeepTwo.refl (h m : Nat) (W : World) : KeepTwo h m W W := ⟨Nat.le_refl _, fun _ _ _ _ => rfl⟩
theorem KeepTwo.below {h m : Nat} {W w w' : World} (k : KeepTwo h m W w) (hb : Below w.heap.size w w') : KeepTwo h m W w' :=
  ⟨Nat.le_trans k.size hb.size, fun b h1 h2 h3 => (hb.block b (Nat.lt_of_lt_of_le h1 k.size)).trans (k.keep b h1 h2 h3)⟩
theorem KeepTwo.set {h m : Nat} {W w : World} (k : KeepTwo h m W w) (i : Nat) (u : Value) : KeepTwo h m W (w.setCell ⟨h, i, none⟩ u) :=
  ⟨by simpa [World.setCell] using k.size, fun b h1 h2 h3 => (Below.heap_setCell w ⟨h, i, none⟩ u b h2).trans (k.keep b h1 h2 h3)⟩
theorem KeepTwo.grown {h m base : Nat} {W w w' : World} (k : KeepTwo h m W w) {e : TypeId} {size n : Nat} {v : Value} {xs : List Value} (hown : w.ownsRow base e size v n xs) (hbase : W.heap.size ≤ base) (hg : w.grownBy w' v.ownBlock) : KeepTwo h m W w' :=
  ⟨Nat.le_trans k.size hg.size, fun b h1 h2 h3 => (hg.block b (Nat.lt_of_lt_of_le h1 k.size) (fun e => by have := (hown.lt b e.symm).1; omega)).trans (k.keep b h1 h2 h3)⟩
theorem KeepTwo.map {h m : Nat} {W w w' : World} (k : KeepTwo h m W w) (hg : w.grownBy w' (some m)) : KeepTwo h m W w' :=
  ⟨Nat.le_trans k.size hg.size, fun b h1 h2 h3 => (hg.block b (Nat.lt_of_lt_of_le h1 k.size) (fun e => h3 (Option.some.inj e))).trans (k.keep b h1 h2 h3)⟩
theorem Blk.other {w w' : World} {h m : Nat} {t : TypeId} {cs : Array Value} (B : Blk w h t cs) (hg : w.grownBy w' (some m)) (hne : h ≠ m) : Blk w' h t cs :=
  (hg.block h B.lt (fun e => hne (Option.some.inj e))).trans B
theorem owns_other {w w' : World} {base m : Nat} {e : TypeId} {size n : Nat} {v : Value} {xs : List Value} (h : w.ownsRow base e size v n xs) (hg : w.grownBy w' (some m)) (hm : m < base) : w'.ownsRow base e size v n xs :=
  h.kept hg (by
    cases hv : v.ownBlock with
    | none => exact .inl rfl
    | some g => exact .inr fun e => by have h1 := (h.lt g hv).1; have h2 := Option.some.inj e; omega)
def RFr (r : HR) (s : List UInt8) (op : Int) (nw : Bool) (fl : Int) (w : World) (m : Nat) (w2 W4 : World) (i : Value) (wr : World) : Prop :=
  ∃ (k n : Nat) (l : List Int) (v : Value), k ≤ r.fields.length ∧ i = .int .i64 (k : Nat) ∧ Blk wr w.heap.size 37 (HC op nw fl v) ∧ wr.ownsRow W4.heap.size 122 1 v k (u64Cells ((valsOf r s).take k)) ∧
    FreeM wr m n l ∧ n ≤ 6 + 8 * k ∧ (∀ i : Nat, l.contains (i : Int) = freeL (r.fields.take k) i) ∧ KeepTwo w.heap.size m w2 wr ∧ W4.heap.size ≤ wr.heap.size ∧ Below w.heap.size w wr
def RFi (f : FR) (l0 : List Int) (n0 m : Nat) (wa : World) (i : Value) (wr : World) : Prop :=
  ∃ (j : Nat) (l : List Int), j ≤ f.size ∧ i = .int .i64 (j : Nat) ∧ FreeM wr m (n0 + j) l ∧ (∀ i : Nat, l.contains (i : Int) = (l0.contains (i : Int) || (decide (f.at_ ≤ i) && decide (i < f.at_ + j)))) ∧ wa.grownBy wr (some m)
def RFs (s : List UInt8) (r : HR) (wa : World) (i : Value) (wr : World) : Prop :=
  ∃ k : Nat, k ≤ 48 ∧ i = .int .i64 (k : Nat) ∧ (∀ j, j < k → (!freeAt r j && (s.getD j 0 != 0)) = false) ∧ wr = wa
section
variable (s : List UInt8) (w : World) (hs : s.length ≤ 1000)
include hs
set_option maxHeartbeats 4000000 in
theorem rread_any : Calls Tryz.prog 77 #[.string (bs s)] w fun e w' => ReadRPost (readH s) w e w' := by
  have ck := fun op w1 => hid (kind_any op w1)
  unfold KindPost at ck
  have b1 := (Below.refl w.heap.size w).alloc (Nat.le_refl _) (.cells #[.int .i64 0, .bool false, .int .i64 0, .slice none 0 0] 37)
  have B1 := Blk.new w 37 #[.int .i64 0, .bool false, .int .i64 0, .slice none 0 0]
  by_cases hl : s.length = 48
  · obtain ⟨x0, hx0⟩ : ∃ x, s[0]'(by omega) = x := ⟨_, rfl⟩
    obtain ⟨x1, hx1⟩ : ∃ x, s[1]'(by omega) = x := ⟨_, rfl⟩
    obtain ⟨x4, hx4⟩ : ∃ x, s[4]'(by omega) = x := ⟨_, rfl⟩
    have e0 : s.getD 0 0 = x0 := by rw [← hx0]; simp [List.getD, hl]
    have e1 : s.getD 1 0 = x1 := by rw [← hx1]; simp [List.getD, hl]
    have e4 : s.getD 4 0 = x4 := by rw [← hx4]; simp [List.getD, hl]
    have hx0l := x0.toNat_lt
    have hx1l := x1.toNat_lt
    by_cases h0 : 128 ≤ x0.toNat
    · have HR := hid (show readH s = readNo 3 by unfold readH; rw [if_neg (by omega), e0, if_pos h0])
      have hq : (x0.toNat : Int) / 128 = 1 := by omega
      clear e0 e1 e4
      go_enter Tryz.func77, Tryz.ntmps77
      go_wp2
      refine bodyPost_ret (v := .tuple #[headV 0 false 0 (.slice none 0 0), .int .i64 0, .int .i64 0, .int .i64 3]) (by simp [results, Tryz.results77, go_sem]; rfl) rfl ?_
      refine ⟨_, by rw [HR.out]; rfl, by rw [HR.out]; exact sl_nil _ _, ?_⟩
      exact b1
    · have hq : (x0.toNat : Int) / 128 = 0 := by omega
      have EO : hOp s = (x0.toNat : Int) % 64 := by unfold hOp; rw [e0]; omega
      have EN : hNow s = ((x0.toNat : Int) / 64 == 1) := by
        unfold hNow; rw [e0]
        by_cases h : 64 ≤ x0.toNat
        · rw [decide_eq_true h]; symm; rw [beq_iff_eq]; omega
        · rw [decide_eq_false h]; symm; rw [beq_eq_false_iff_ne]; omega
      have EF : hFl s = (x1.toNat : Int) := by unfold hFl; rw [e1]
      have EW : hWords s = (x4.toNat : Int) := by unfold hWords; rw [e4]
      have hrd : readH s = readO s (findH (hOp s)) := by unfold readH; rw [if_neg (by omega), e0, if_neg (by omega)]
      have hrn : findH (hOp s) = none → readH s = readNo 1 := fun h => by rw [hrd, h]; rfl
      have hrs : ∀ r, findH (hOp s) = some r → readH s = if wrongH (hOp s) (hNow s) (hFl s) r.flags then readNo 3 else if spoilt r s then readNo 3 else ⟨0, hOp s, hNow s, hFl s, valsOf r s, hWords s, hData s⟩ := fun r h => by rw [hrd, h]; rfl
      rw [EF, EW] at hrs
      have ED : hData s = (num ((s.drop 5).take 3) : Nat) := rfl
      rw [ED] at hrs
      have HRS := hid hrs; have HRN := hid hrn
      have ho0 : 0 ≤ hOp s ∧ hOp s < 64 := by rw [EO]; omega
      clear hrs hrn hrd EF EW ED e0 e1 e4
      have en : ((x0.toNat : Int) / 64 == 1) = hNow s := EN.symm
      have eo : (x0.toNat : Int) % 64 = hOp s := EO.symm
      clear EN EO
      generalize hOp s = op at *
      generalize hNow s = nw at *
      have ck := (ck op)
      cases hf : findH op with
      | none =>
        have HR := hid (HRN.out hf)
        simp only [hf, hName, hFlags, hFields, Option.isSome_none] at ck
        go_enter Tryz.func77, Tryz.ntmps77
        go_wp2_with fail
        refine (ck _).out.mono ?_
        rintro e w2 ⟨fv, rfl, _, _, hb2⟩
        have B2 := B1.below hb2
        have b2 := b1.trans (hb2.mono b1.size)
        have v0 := B2.free 0; have v1 := B2.free 1; have v2 := B2.free 2; have v3 := B2.free 3
        have t0 : w2.cell? ⟨w.heap.size, 0, none⟩ = some (.int .i64 0) := (B2.cell 0).trans rfl
        have t1 : w2.cell? ⟨w.heap.size, 1, none⟩ = some (.bool false) := (B2.cell 1).trans rfl
        have t2 : w2.cell? ⟨w.heap.size, 2, none⟩ = some (.int .i64 0) := (B2.cell 2).trans rfl
        have t3 : w2.cell? ⟨w.heap.size, 3, none⟩ = some (.slice none 0 0) := (B2.cell 3).trans rfl
        go_wp2
        refine bodyPost_ret (v := .tuple #[headV 0 false 0 (.slice none 0 0), .int .i64 0, .int .i64 0, .int .i64 1]) (by simp [results, Tryz.results77, go_sem, t0, t1, t2, t3]; rfl) rfl ?_
        refine ⟨_, by rw [HR.out]; rfl, by rw [HR.out]; exact sl_nil _ _, ?_⟩
        iterate 4 refine below_setc ?_ (Nat.le_refl w.heap.size) _ _
        exact b2
      | some r =>
        have hmem := findH_mem hf
        have hn0 := fields_pos r hmem
        have hfl := (head_fine r hmem).2.2.2.2.2.1
        have hnf := (head_fine r hmem).2.2.2.2.2.2.1
        have hsz := (head_fine r hmem).2.2.2.2.2.2.2
        have Hsz := hid hsz; clear hsz
        have HR := hid (HRS.out r hf)
        have hand : (bits .or .i64 (x1.toNat : Int) (r.flags : Int) != (r.flags : Int)) = extra x1.toNat r.flags := or_flags x1.toNat r.flags (by omega) hfl
        have hx1w : IntKind.i64.wrap (x1.toNat : Int) = (x1.toNat : Int) := by rw [IntKind.wrap_i64]; omega
        simp only [hf, hName, hFlags, hFields, Option.isSome_some] at ck
        go_enter Tryz.func77, Tryz.ntmps77
        go_wp2_with fail
        refine (ck _).out.mono ?_
        rintro e w2 ⟨fv, rfl, hfs, _, hb2⟩
        have B2 := B1.below hb2
        have b2 := b1.trans (hb2.mono b1.size)
        obtain ⟨fb, fo, fc, rfl, hfb, hfc⟩ := fields_open hfs hn0
        have hfg : fb ≠ w.heap.size := by
          intro e
          obtain ⟨f, hf0⟩ : ∃ f, r.fields[0]? = some f := ⟨r.fields[0], List.getElem?_eq_getElem hn0⟩
          have h1 := (hfc 0 f hf0).1
          rw [e, B2.cell] at h1
          rcases hq : fo with _ | _ | _ | _ | fo <;> rw [hq] at h1 <;> simp at h1
        have HFC := hid hfc
        clear hfc hfs ck B1 b1 hb2
        obtain ⟨y, hy⟩ : ∃ y : Int, (x0.toNat : Int) / 64 = y := ⟨_, rfl⟩
        have hw8 : IntKind.i64.wrap op = op := by rw [IntKind.wrap_i64]; omega
        rw [hy] at en
        have hyw : IntKind.u8.wrap y = y := by rw [IntKind.wrap_u8]; omega
        have v0 := B2.free 0; have v1 := B2.free 1; have v2 := B2.free 2; have v3 := B2.free 3
        have t0 : w2.cell? ⟨w.heap.size, 0, none⟩ = some (.int .i64 0) := (B2.cell 0).trans rfl
        have t1 : w2.cell? ⟨w.heap.size, 1, none⟩ = some (.bool false) := (B2.cell 1).trans rfl
        have t2 : w2.cell? ⟨w.heap.size, 2, none⟩ = some (.int .i64 0) := (B2.cell 2).trans rfl
        have t3 : w2.cell? ⟨w.heap.size, 3, none⟩ = some (.slice none 0 0) := (B2.cell 3).trans rfl
        have hcases : (wrongH op nw (x1.toNat : Int) r.flags = true ∧ ((nw = true ∧ 32 ≤ op) ∨ (nw = false ∧ extra x1.toNat r.flags = true) ∨ (nw = true ∧ ¬ 32 ≤ op ∧ extra x1.toNat r.flags = true))) ∨ (wrongH op nw (x1.toNat : Int) r.flags = false ∧ (nw = true → ¬ 32 ≤ op) ∧ extra x1.toNat r.flags = false) := by
          unfold wrongH
          have hz : ¬ (x1.toNat : Int) < 0 := by omega
          rw [Int.toNat_natCast]
          cases nw <;> by_cases a1 : 32 ≤ op <;> cases a3 : extra x1.toNat r.flags <;> simp [a1, hz]
        rcases hcases with ⟨hw, hc⟩ | ⟨hw, hc, he⟩
        · have HRf := hid (show readH s = readNo 3 by rw [HR.out, if_pos hw])
          rcases hc with ⟨rfl, hc⟩ | ⟨rfl, he⟩ | ⟨rfl, hc, he⟩
          case' inl => have hd := decide_eq_true hc
          case' inr.inr => have hd := decide_eq_false hc
          case' inr.inl => rw [he] at hand
          case' inr.inr => rw [he] at hand
          all_goals
            go_wp2
            refine bodyPost_ret (v := .tuple #[headV 0 false 0 (.slice none 0 0), .int .i64 0, .int .i64 0, .int .i64 3]) (by simp [results, Tryz.results77, go_sem, t0, t1, t2, t3]; rfl) rfl ?_
            refine ⟨_, by rw [HRf.out]; rfl, by rw [HRf.out]; exact sl_nil _ _, ?_⟩
            first
              | exact b2
              | (iterate 4 refine below_setc ?_ (Nat.le_refl w.heap.size) _ _
                 exact b2)
        · have HR2 := hid (show readH s = if spoilt r s = true then readNo 3 else ⟨0, op, nw, (x1.toNat : Int), valsOf r s, (x4.toNat : Int), (num ((s.drop 5).take 3) : Nat)⟩ by rw [HR.out, if_neg (by simp [hw])])
          rw [he] at hand
          have hmm := @run_makeMap Tryz.prog
          obtain ⟨m1, q1, f1, g1⟩ := (FreeM.made w2).put (by omega) 0 (by omega) (by omega)
          obtain ⟨m2, q2, f2, g2⟩ := f1.put (by omega) 1 (by omega) (by omega)
          obtain ⟨m3, q3, f3, g3⟩ := f2.put (by omega) 4 (by omega) (by omega)
          obtain ⟨m4, q4, f4, g4⟩ := f3.put (by omega) 5 (by omega) (by omega)
          obtain ⟨m5, q5, f5, g5⟩ := f4.put (by omega) 6 (by omega) (by omega)
          obtain ⟨m6, q6, f6, g6⟩ := f5.put (by omega) 7 (by omega) (by omega)
          have hlt2 := B2.lt
          have hne : w.heap.size ≠ w2.heap.size := by omega
          have hA0 := (Below.refl w2.heap.size w2).alloc (Nat.le_refl _) (.map #[] 0)
          have K6 := ((((((KeepTwo.refl w.heap.size w2.heap.size w2).below hA0).map g1).map g2).map g3).map g4).map g5 |>.map g6
          have B6 := ((((((B2.below hA0).other g1 hne).other g2 hne).other g3 hne).other g4 hne).other g5 hne).other g6 hne
          have b6 : Below w.heap.size w m6 := by
            have h0 := b2.trans (hA0.mono b2.size)
            have h1 := below_only h0 g1 b2.size h0.size
            have h2 := below_only h1 g2 b2.size h1.size
            have h3 := below_only h2 g3 b2.size h2.size
            have h4 := below_only h3 g4 b2.size h3.size
            have h5 := below_only h4 g5 b2.size h4.size
            exact below_only h5 g6 b2.size h5.size
          clear g1 g2 g3 g4 g5 g6 f1 f2 f3 f4 f5 hA0 B2
          cases nw
          case' true => have hd := decide_eq_false (hc rfl)
          · go_wp2_with fail
            have hmx : Tryz.prog.follows .mixedOrders = true := by kernel_rfl
            refine wpIn_wide (n := 4).1 ?_
            obtain ⟨nwv, hnwv⟩ : ∃ nwv : Bool, (y == 1) = nwv := ⟨_, rfl⟩
            have hnw : nwv = _ := hnwv.symm.trans en
            refine region_last (aF := ?kA0) 9 [(63, .int .i64 op), (64, .string (bs s)), (65, .int .u8 (x0.toNat : Int)), (66, .int .u8 y), (67, .bool nwv), (68, .string (bs s)), (69, .int .u8 (x1.toNat : Int)), (70, .int .i64 (x1.toNat : Int)), (71, .agg #[.int .i64 op, .bool nwv, .int .i64 (x1.toNat : Int), .slice none 0 0])] (fun W => Below m6.heap.size m6 W) ?kB0 hmx rfl (by kernel_rfl) (by kernel_rfl) (fun w w' h hb => h.trans (hb.mono h.size)) (Below.refl _ _).drew ?kC0 rfl ?kD0
            case kB0 =>
              simp only [putAll, List.foldl_cons, List.foldl_nil, List.setIfInBounds_toArray, List.set_cons_zero, List.set_cons_succ]
              exact rfl
            case kC0 =>
              have hrf : ∀ w : World, Below w.heap.size w w := fun w => Below.refl _ w
              refine ⟨?_, ?_, ?_, ?_, ?_, ?_, ?_, ?_, ?_, trivial⟩
              all_goals refine ⟨by simp, fun W h => ⟨by simp [go_sem, Oper.about], ?_⟩⟩
              all_goals clear h
              all_goals simp [OpTo, go_sem, hrf, hl, hx0, hx1, hy, hyw, hnwv, hx1w]
            case kD0 =>
              intro W hW
              have B7 := B6.below hW
              have b7 := b6.trans (hW.mono b6.size)
              have K7 := K6.below hW
              have f7 := f6.below hW
              rw [hnw]
              have v0 := B7.free 0; have v1 := B7.free 1; have v2 := B7.free 2; have v3 := B7.free 3
              have t0 : W.cell? ⟨w.heap.size, 0, none⟩ = some (.int .i64 0) := (B7.cell 0).trans rfl
              have t1 : W.cell? ⟨w.heap.size, 1, none⟩ = some (.bool false) := (B7.cell 1).trans rfl
              have t2 : W.cell? ⟨w.heap.size, 2, none⟩ = some (.int .i64 0) := (B7.cell 2).trans rfl
              have t3 : W.cell? ⟨w.heap.size, 3, none⟩ = some (.slice none 0 0) := (B7.cell 3).trans rfl
              have B8 : Blk ((((W.setCell ⟨w.heap.size, 0, none⟩ (.int .i64 op)).setCell ⟨w.heap.size, 1, none⟩ (.bool nwv)).setCell ⟨w.heap.size, 2, none⟩ (.int .i64 (x1.toNat : Int))).setCell ⟨w.heap.size, 3, none⟩ (.slice none 0 0)) w.heap.size 37 (HC op nwv (x1.toNat : Int) (.slice none 0 0)) := (((B7.set 0 _).set 1 _).set 2 _).set 3 _
              have b8 := below_setc (below_setc (below_setc (below_setc b7 (Nat.le_refl w.heap.size) 0 (.int .i64 op)) (Nat.le_refl w.heap.size) 1 (.bool nwv)) (Nat.le_refl w.heap.size) 2 (.int .i64 (x1.toNat : Int))) (Nat.le_refl w.heap.size) 3 (.slice none 0 0)
              have K8 := (((K7.set 0 (.int .i64 op)).set 1 (.bool nwv)).set 2 (.int .i64 (x1.toNat : Int))).set 3 (.slice none 0 0)
              have f8 := f7.same (w' := (((W.setCell ⟨w.heap.size, 0, none⟩ (.int .i64 op)).setCell ⟨w.heap.size, 1, none⟩ (.bool nwv)).setCell ⟨w.heap.size, 2, none⟩ (.int .i64 (x1.toNat : Int))).setCell ⟨w.heap.size, 3, none⟩ (.slice none 0 0)) (by
                have hne2 : w2.heap.size ≠ w.heap.size := fun e => hne e.symm
                rw [Below.heap_setCell _ ⟨w.heap.size, 3, none⟩ _ _ hne2, Below.heap_setCell _ ⟨w.heap.size, 2, none⟩ _ _ hne2, Below.heap_setCell _ ⟨w.heap.size, 1, none⟩ _ _ hne2, Below.heap_setCell _ ⟨w.heap.size, 0, none⟩ _ _ hne2])
              rw [hnw] at B8 b8 K8 f8
              gi_wp2
              generalize hW3 : (((W.setCell ⟨w.heap.size, 0, none⟩ (.int .i64 op)).setCell ⟨w.heap.size, 1, none⟩ (.bool _)).setCell ⟨w.heap.size, 2, none⟩ (.int .i64 (x1.toNat : Int))).setCell ⟨w.heap.size, 3, none⟩ (.slice none 0 0) = W3 at *
              have hlt8 := B8.lt
              have hM8 := f8.lt
              clear hW3 v0 v1 v2 v3 t0 t1 t2 t3 B7 b7 K7 f7 hnw hnwv q1 q2 q3 q4 q5 q6 hmm hand en
              go_wp2
              go_loopw [74] (fun i wr => RFr r s op true (x1.toNat : Int) w w2.heap.size w2 W3 i wr) (fun i _ => r.fields.length - (intOf i).toNat)
              case atStart => exact ⟨0, 6, _, _, by omega, rfl, B8, World.ownsRow_nil _ _ _ _, f8, by omega, by
                  intro i
                  simp only [freeL, List.take_zero, covers, List.any_nil, Bool.or_false]
                  rw [Bool.eq_iff_iff]
                  simp
                  omega, K8, Nat.le_refl _, b8⟩
              case round =>
                rename World => wo
                obtain ⟨k, n, l, v, hk, rfl, hB, hown, hF, hnk, hcl, hKp, hs4, hb⟩ := hrel
                have hs2 := hKp.size
                by_cases hlt : k < r.fields.length
                · obtain ⟨f, hfk⟩ : ∃ f, r.fields[k]? = some f := ⟨r.fields[k], List.getElem?_eq_getElem hlt⟩
                  obtain ⟨_, _, _, _, hat, hs0, hs8⟩ := Hsz.out f (List.mem_of_getElem? hfk)
                  have Hn := hid (valsOf_snoc r s k f hfk)
                  have Hcov := hid (covers_snoc r.fields k f hfk)
                  have HCL := hid hcl
                  obtain ⟨y0, y1, y2⟩ := HFC.out k f hfk
                  have hfm : fb ≠ w2.heap.size := by omega
                  have y0 := (hKp.cell (p := ⟨fb, fo + k * 3, none⟩) hfb hfg hfm).trans y0
                  have y1 := (hKp.cell (p := ⟨fb, fo + k * 3 + 1, none⟩) hfb hfg hfm).trans y1
                  have y2 := (hKp.cell (p := ⟨fb, fo + k * 3 + 2, none⟩) hfb hfg hfm).trans y2
                  have sm := fun W => str_mid s f.at_ f.size (by omega) (by omega) W
                  have s4 : IntKind.i64.wrap ((f.at_ : Int) + (f.size : Int)) = (f.at_ : Int) + (f.size : Int) := by rw [IntKind.wrap_i64]; omega
                  have cG := fun W => hid (unnum_bs ((s.drop f.at_).take f.size) (by rw [slice_len s f (by omega)]; exact hs8) W)
                  have hvo : num ((s.drop f.at_).take f.size) = valOf s f := rfl
                  rw [hvo] at cG
                  clear hvo
                  generalize (s.drop f.at_).take f.size = sl at *
                  generalize valOf s f = xv at *
                  generalize u64Cells ((valsOf r s).take k) = xs at *
                  have hA := (Below.refl wo.heap.size wo).alloc (Nat.le_refl _) (.cells #[.string (bs f.name), .int .i64 (f.at_ : Int), .int .i64 (f.size : Int)] 230)
                  have hB2 := hB.below hA
                  have hK2 := hKp.below hA
                  have hO2 := owns_below hown hA
                  have hF2 := hF.below hA
                  have hbA := hb.trans (hA.mono hb.size)
                  have hN := Blk.new wo 230 #[.string (bs f.name), .int .i64 (f.at_ : Int), .int .i64 (f.size : Int)]
                  have q8 := hB.lt
                  have qM := hF.lt
                  clear hfk hcl
                  go_wp2_with fail
                  go_loopw [80] (fun i wi => RFi f l n w2.heap.size (wo.alloc (.cells #[.string (bs f.name), .int .i64 (f.at_ : Int), .int .i64 (f.size : Int)] 230)) i wi) (fun i _ => f.size - (intOf i).toNat)
                  case atStart => exact ⟨0, l, by omega, rfl, hF2, fun i => by
                      have : (decide (f.at_ ≤ i) && decide (i < f.at_ + 0)) = false := by
                        simp <;> omega
                      rw [this, Bool.or_false], only_refl _ _⟩
                  case round =>
                    obtain ⟨j, l2, hj, rfl, hF3, hc3, hg3⟩ := hrel
                    have hs3 := hg3.size
                    have z1 : wr.cell? ⟨wo.heap.size, 1, none⟩ = some (.int .i64 (f.at_ : Int)) := (grown_cell hg3 (p := ⟨wo.heap.size, 1, none⟩) hN.lt (by show wo.heap.size ≠ _; omega)).trans ((hN.cell 1).trans rfl)
                    by_cases hjl : j < f.size
                    · have hjw : IntKind.i64.wrap ((f.at_ : Int) + (j : Int)) = (f.at_ : Int) + (j : Int) := by rw [IntKind.wrap_i64]; omega
                      obtain ⟨m7, q7, f7, g7⟩ := hF3.put (by omega) ((f.at_ : Int) + (j : Int)) (by omega) (by omega)
                      have HC3 := hid hc3
                      clear hc3
                      go_wp2
                      go_roundw
                      case rel => exact ⟨j + 1, _, by omega, by go_num, f7, fun i => by
                          rw [List.contains_cons, HC3.out]
                          by_cases h1 : (i : Int) = (f.at_ : Int) + (j : Int)
                          · have h2 : ((i : Int) == (f.at_ : Int) + (j : Int)) = true := by simpa using h1
                            rw [h2, Bool.true_or]
                            have h3 : (decide (f.at_ ≤ i) && decide (i < f.at_ + (j + 1))) = true := by simp; omega
                            rw [h3, Bool.or_true]
                          · have h2 : ((i : Int) == (f.at_ : Int) + (j : Int)) = false := by simpa using h1
                            rw [h2, Bool.false_or]
                            congr 2
                            rw [decide_eq_decide]
                            omega, only_trans hg3 g7⟩
                      case measure => simp [intOf]; omega
                    · obtain rfl : j = f.size := by omega
                      have hne3 : w.heap.size ≠ w2.heap.size := hne
                      have hB4 := hB2.other hg3 hne3
                      have hK4 := hK2.map hg3
                      have hO4 := owns_other hO2 hg3 hM8
                      have hb4 := below_only hbA hg3 b2.size hbA.size
                      have z2 : wr.cell? ⟨wo.heap.size, 2, none⟩ = some (.int .i64 (f.size : Int)) := (grown_cell hg3 (p := ⟨wo.heap.size, 2, none⟩) hN.lt (by show wo.heap.size ≠ _; omega)).trans ((hN.cell 2).trans rfl)
                      have HC3 := hid hc3
                      clear hc3
                      go_wp2_with fail
                      refine (cG _).out.mono ?_
                      rintro e w5 ⟨rfl, hb5⟩
                      have hB5 := hB4.below hb5
                      have hK5 := hK4.below hb5
                      have hO5 := owns_below hO4 hb5
                      have hF5 := hF3.below hb5
                      have hb6 := hb4.trans (hb5.mono hb4.size)
                      have hA3 := (Below.refl w5.heap.size w5).alloc (Nat.le_refl _) (.cells #[.int .u64 (xv : Nat)] 122)
                      have hB6 := hB5.below hA3
                      have hK6 := hK5.below hA3
                      have hO6 := owns_below hO5 hA3
                      have hF6 := hF5.below hA3
                      have hb7 := hb6.trans (hA3.mono hb6.size)
                      have t3 : w5.cell? ⟨w.heap.size, 3, none⟩ = some v := (hB5.cell 3).trans rfl
                      have t3' : (w5.alloc (.cells #[.int .u64 (xv : Nat)] 122)).cell? ⟨w.heap.size, 3, none⟩ = some v := (hB6.cell 3).trans rfl
                      have hs5 : W3.heap.size ≤ w5.heap.size := by have h1 := hb5.size; have h2 := hg3.size; simp at h2; omega
                      have hs6 : W3.heap.size ≤ (w5.alloc (.cells #[.int .u64 (xv : Nat)] 122)).heap.size := by simp; omega
                      go_wp2_with (at_builtin; refine list_append_own rfl (.tmp 103) (.tmp 105) 35 rfl W3.heap.size 122 (.int .u64 0) 1 8 Tryz.underlying35 infoU64 rfl (by decide) v k xs rfl hO6 ⟨w5.heap.size, 0, none⟩ 1 1 [.int .u64 (xv : Nat)] rfl rfl (by intro j u hu; (have hj : j = 0 := by (have := (List.getElem?_eq_some_iff.1 hu).1; simp at this; exact this)); subst hj; simp at hu; subst hu; rw [show (⟨w5.heap.size, 0, none⟩ : Addr).add 0 = ⟨w5.heap.size, 0, none⟩ from rfl, cell_of_row _ _ _ _ _ _ (heap_alloc_new _ _)]; rfl) (by simp [Value.oneCell']) (by unfold maxLen; omega) (by omega) hs6 ?_; intro v' w8 hown8 hgrow _; obtain ⟨sa', sc', rfl⟩ := own_sl hown8; have hB8 := hB6.grown hO6 hgrow hlt8; have hK8 := hK6.grown hO6 (by omega) hgrow; have hF8 : FreeM w8 w2.heap.size (n + f.size) l2 := hF6.kept hgrow (fun e => by have h1 := (hO6.lt _ e.symm).1; omega); have u3 : w8.cell? ⟨w.heap.size, 3, none⟩ = some v := (hB8.cell 3).trans rfl; have fz3 := hB8.free 3)
                      refine ⟨⟨k + 1, n + f.size, l2, _, by omega, by go_num, hB8.set 3 _, by rw [Hn.out]; exact owns_set hown8 hlt8 _, hF8.same (Below.heap_setCell _ ⟨w.heap.size, 3, none⟩ _ _ (fun e => hne e.symm)), by omega, fun i => by rw [HC3.out, HCL.out]; unfold freeL; rw [Hcov.out, Bool.or_assoc], hK8.set 3 _, ?_, below_setc (below_append hb7 (owns_base hO6 (Nat.le_of_lt hlt8)) hgrow hb7.size) (Nat.le_refl _) _ _⟩, by simp [intOf]; omega⟩
                      have h1 := hgrow.size
                      simp [World.setCell] at h1 ⊢
                      omega
                · obtain rfl : k = r.fields.length := by omega
                  obtain ⟨va, vc, rfl⟩ := own_sl hown
                  have hvl : (valsOf r s).length = r.fields.length := by simp [valsOf]
                  have hfa : ∀ i : Nat, l.contains (i : Int) = freeAt r i := fun i => by rw [hcl i, List.take_length]; rfl
                  rw [List.take_of_length_le (by omega)] at hown
                  have HFA := hid hfa
                  have HF := hid hF
                  have hwsz := hb.size
                  clear hfa hcl hKp hF
                  go_wp2
                  go_loopw [111] (fun i wr => RFs s r wo i wr) (fun i _ => 48 - (intOf i).toNat)
                  case atStart => exact ⟨0, by omega, rfl, fun j hj => by omega, rfl⟩
                  case round =>
                    obtain ⟨k, hk, rfl, hno, rfl⟩ := hrel
                    by_cases hk48 : k < 48
                    · have hlk := HF.out.look (k : Int) (by omega) (by omega)
                      rw [HFA.out k] at hlk
                      have hkl : k < s.length := by omega
                      obtain ⟨x, hx⟩ : ∃ x, s[k] = x := ⟨_, rfl⟩
                      have hgd : s.getD k 0 = x := by rw [← hx]; simp [List.getD, hkl]
                      have HNO := hid hno
                      clear hno
                      cases hfr : freeAt r k with
                      | true =>
                        rw [hfr] at hlk
                        go_wp2
                        go_roundw
                        case rel => exact ⟨k + 1, by omega, by go_num, fun j hj => by
                            rcases Nat.lt_or_ge j k with h | h
                            · exact HNO.out j h
                            · obtain rfl : j = k := by omega
                              rw [hfr]; rfl, rfl⟩
                        case measure => simp [intOf]; omega
                      | false =>
                        rw [hfr] at hlk
                        cases hxb : x != 0 with
                        | true =>
                          have hxi : ((x.toNat : Int) != 0) = true := by
                            rw [bne_iff_ne] at hxb ⊢
                            intro h
                            exact hxb (UInt8.toNat_inj.1 (by have : x.toNat = 0 := by omega
                                                             rw [this]; rfl))
                          have HRf := hid (show readH s = readNo 3 by
                            rw [HR2.out, if_pos]
                            exact List.any_eq_true.2 ⟨k, List.mem_range.2 hk48, by rw [hfr, hgd, hxb]; rfl⟩)
                          clear hfr hgd hxb
                          have v0 := hB.free 0; have v1 := hB.free 1; have v2 := hB.free 2; have v3 := hB.free 3
                          have t0 : World.cell? _ ⟨w.heap.size, 0, none⟩ = some (.int .i64 op) := (hB.cell 0).trans rfl
                          have t1 : World.cell? _ ⟨w.heap.size, 1, none⟩ = some (.bool true) := (hB.cell 1).trans rfl
                          have t2 : World.cell? _ ⟨w.heap.size, 2, none⟩ = some (.int .i64 (x1.toNat : Int)) := (hB.cell 2).trans rfl
                          have t3 : World.cell? _ ⟨w.heap.size, 3, none⟩ = some (.slice va r.fields.length vc) := (hB.cell 3).trans rfl
                          go_wp2
                          refine bodyPost_ret (v := .tuple #[headV 0 false 0 (.slice none 0 0), .int .i64 0, .int .i64 0, .int .i64 3]) (by simp [results, Tryz.results77, go_sem, t0, t1, t2, t3]; rfl) rfl ?_
                          refine ⟨_, by rw [HRf.out]; rfl, by rw [HRf.out]; exact sl_nil _ _, ?_⟩
                          iterate 4 refine below_setc ?_ (Nat.le_refl w.heap.size) _ _
                          exact hb
                        | false =>
                          have hxi : ((x.toNat : Int) != 0) = false := by
                            have h : x = 0 := by simpa using hxb
                            rw [h]; rfl
                          have HN2 := hid (show (!freeAt r k && (s.getD k 0 != 0)) = false by rw [hgd, hxb, Bool.and_false])
                          clear hfr hgd hxb
                          go_wp2
                          go_roundw
                          case rel => exact ⟨k + 1, by omega, by go_num, fun j hj => by
                              rcases Nat.lt_or_ge j k with h | h
                              · exact HNO.out j h
                              · obtain rfl : j = k := by omega
                                exact HN2.out, rfl⟩
                          case measure => simp [intOf]; omega
                    · obtain rfl : k = 48 := by omega
                      have HRf := hid (show readH s = _ by
                        rw [HR2.out, if_neg]
                        intro h
                        obtain ⟨j, hj, h⟩ := List.any_eq_true.1 h
                        rw [hno j (List.mem_range.1 hj)] at h
                        cases h)
                      have sm : ∀ W, (Instr.slice 9 (.string (bs s)) (some (.int .i64 5)) (some (.int .i64 8)) none).run Tryz.prog W = .ok (.string (bs ((s.drop 5).take 3))) W := fun W => str_mid s 5 3 (by omega) (by omega) W
                      have cG := fun W => hid (unnum_bs ((s.drop 5).take 3) (by simp; omega) W)
                      have hN3 := num_lt ((s.drop 5).take 3)
                      have hl3 : ((s.drop 5).take 3).length = 3 := by simp; omega
                      rw [hl3] at hN3
                      clear hno
                      generalize num ((s.drop 5).take 3) = N3 at *
                      generalize (s.drop 5).take 3 = s3 at *
                      go_wp2_with fail
                      refine (cG _).out.mono ?_
                      rintro e w5 ⟨rfl, hb5⟩
                      have hB5 := hB.below hb5
                      have hO5 := owns_below hown hb5
                      have hb6 := hb.trans (hb5.mono hb.size)
                      go_wp2
                      have hx4w : IntKind.i64.wrap (x4.toNat : Int) = (x4.toNat : Int) := by have := x4.toNat_lt; rw [IntKind.wrap_i64]; omega
                      have hn3w : IntKind.i64.wrap (N3 : Int) = (N3 : Int) := by rw [IntKind.wrap_i64]; omega
                      refine wpIn_wide (n := 4).1 ?_
                      refine region_inv (aF := ?kE0) [(132, .agg #[.int .i64 op, .bool true, .int .i64 (x1.toNat : Int), .slice va r.fields.length vc]), (133, .string (bs s)), (134, .int .u8 (x4.toNat : Int)), (135, .int .i64 (x4.toNat : Int)), (136, .int .u64 (N3 : Int)), (137, .int .i64 (N3 : Int)), (3, .int .i64 (x4.toNat : Int)), (4, .int .i64 (N3 : Int)), (5, .int .i64 0)] (fun W => Blk W w.heap.size 37 (HC op true (x1.toNat : Int) (.slice va r.fields.length vc)) ∧ W.ownsRow W3.heap.size 122 1 (.slice va r.fields.length vc) r.fields.length (u64Cells (valsOf r s)) ∧ Below w.heap.size w W) ?kF0 hmx (by kernel_rfl) (by kernel_rfl) ⟨hB5, hO5.drew, hb6.drew⟩ ?kG0 ?kH0
                      case kF0 =>
                        simp only [putAll, List.foldl_cons, List.foldl_nil, List.setIfInBounds_toArray, List.set_cons_zero, List.set_cons_succ]
                        exact rfl
                      case kG0 =>
                        refine ⟨?_, ?_, ?_, ?_, ?_, ?_, ?_, ?_, ?_, ?_, trivial⟩
                        all_goals refine ⟨fun d hd => by simp at hd <;> (subst hd; simp), fun W h => ⟨by simp [go_sem, Oper.about], ?_⟩⟩
                        all_goals obtain ⟨hBW, hOW, hbW⟩ := h
                        all_goals
                          have v0 := hBW.free 0; have v1 := hBW.free 1; have v2 := hBW.free 2; have v3 := hBW.free 3
                          have t0 : W.cell? ⟨w.heap.size, 0, none⟩ = some (.int .i64 op) := (hBW.cell 0).trans rfl
                          have t1 : W.cell? ⟨w.heap.size, 1, none⟩ = some (.bool true) := (hBW.cell 1).trans rfl
                          have t2 : W.cell? ⟨w.heap.size, 2, none⟩ = some (.int .i64 (x1.toNat : Int)) := (hBW.cell 2).trans rfl
                          have t3 : W.cell? ⟨w.heap.size, 3, none⟩ = some (.slice va r.fields.length vc) := (hBW.cell 3).trans rfl
                        all_goals first
                          | (simp [OpInv, go_sem, hl, hx4, hx4w, hn3w, hBW, hOW, hbW]; done)
                          | (simp [OpInv, go_sem, t0, t1, t2, t3, hBW, hOW, hbW]; done)
                          | skip
                        all_goals
                          simp [OpInv, go_sem, t0, t1, t2, t3, v0, v1, v2, v3]
                        all_goals
                          exact ⟨(((hBW.set 0 _).set 1 _).set 2 _).set 3 _, owns_set (owns_set (owns_set (owns_set hOW hlt8 _) hlt8 _) hlt8 _) hlt8 _, below_setc (below_setc (below_setc (below_setc hbW (Nat.le_refl w.heap.size) _ _) (Nat.le_refl w.heap.size) _ _) (Nat.le_refl w.heap.size) _ _) (Nat.le_refl w.heap.size) _ _⟩
                      case kH0 =>
                        rintro W ⟨hBW, hOW, hbW⟩
                        have t0 : W.cell? ⟨w.heap.size, 0, none⟩ = some (.int .i64 op) := (hBW.cell 0).trans rfl
                        have t1 : W.cell? ⟨w.heap.size, 1, none⟩ = some (.bool true) := (hBW.cell 1).trans rfl
                        have t2 : W.cell? ⟨w.heap.size, 2, none⟩ = some (.int .i64 (x1.toNat : Int)) := (hBW.cell 2).trans rfl
                        have t3 : W.cell? ⟨w.heap.size, 3, none⟩ = some (.slice va r.fields.length vc) := (hBW.cell 3).trans rfl
                        gi_wp2
                        go_wp2
                        refine bodyPost_ret (v := .tuple #[headV op true (x1.toNat : Int) (.slice va r.fields.length vc), .int .i64 (x4.toNat : Int), .int .i64 (N3 : Int), .int .i64 0]) (by simp [results, Tryz.results77, go_sem, t0, t1, t2, t3]; rfl) rfl ?_
                        have hsl := sl_of_owns hOW
                        exact ⟨_, by rw [HRf.out]; rfl, by rw [HRf.out]; rw [← hvl] at hsl; exact hvl ▸ hsl, hbW⟩
          · go_wp2_with fail
            have hmx : Tryz.prog.follows .mixedOrders = true := by kernel_rfl
            refine wpIn_wide (n := 4).1 ?_
            obtain ⟨nwv, hnwv⟩ : ∃ nwv : Bool, (y == 1) = nwv := ⟨_, rfl⟩
            have hnw : nwv = _ := hnwv.symm.trans en
            refine region_last (aF := ?kA1) 9 [(63, .int .i64 op), (64, .string (bs s)), (65, .int .u8 (x0.toNat : Int)), (66, .int .u8 y), (67, .bool nwv), (68, .string (bs s)), (69, .int .u8 (x1.toNat : Int)), (70, .int .i64 (x1.toNat : Int)), (71, .agg #[.int .i64 op, .bool nwv, .int .i64 (x1.toNat : Int), .slice none 0 0])] (fun W => Below m6.heap.size m6 W) ?kB1 hmx rfl (by kernel_rfl) (by kernel_rfl) (fun w w' h hb => h.trans (hb.mono h.size)) (Below.refl _ _).drew ?kC1 rfl ?kD1
            case kB1 =>
              simp only [putAll, List.foldl_cons, List.foldl_nil, List.setIfInBounds_toArray, List.set_cons_zero, List.set_cons_succ]
              exact rfl
            case kC1 =>
              have hrf : ∀ w : World, Below w.heap.size w w := fun w => Below.refl _ w
              refine ⟨?_, ?_, ?_, ?_, ?_, ?_, ?_, ?_, ?_, trivial⟩
              all_goals refine ⟨by simp, fun W h => ⟨by simp [go_sem, Oper.about], ?_⟩⟩
              all_goals clear h
              all_goals simp [OpTo, go_sem, hrf, hl, hx0, hx1, hy, hyw, hnwv, hx1w]
            case kD1 =>
              intro W hW
              have B7 := B6.below hW
              have b7 := b6.trans (hW.mono b6.size)
              have K7 := K6.below hW
              have f7 := f6.below hW
              rw [hnw]
              have v0 := B7.free 0; have v1 := B7.free 1; have v2 := B7.free 2; have v3 := B7.free 3
              have t0 : W.cell? ⟨w.heap.size, 0, none⟩ = some (.int .i64 0) := (B7.cell 0).trans rfl
              have t1 : W.cell? ⟨w.heap.size, 1, none⟩ = some (.bool false) := (B7.cell 1).trans rfl
              have t2 : W.cell? ⟨w.heap.size, 2, none⟩ = some (.int .i64 0) := (B7.cell 2).trans rfl
              have t3 : W.cell? ⟨w.heap.size, 3, none⟩ = some (.slice none 0 0) := (B7.cell 3).trans rfl
              have B8 : Blk ((((W.setCell ⟨w.heap.size, 0, none⟩ (.int .i64 op)).setCell ⟨w.heap.size, 1, none⟩ (.bool nwv)).setCell ⟨w.heap.size, 2, none⟩ (.int .i64 (x1.toNat : Int))).setCell ⟨w.heap.size, 3, none⟩ (.slice none 0 0)) w.heap.size 37 (HC op nwv (x1.toNat : Int) (.slice none 0 0)) := (((B7.set 0 _).set 1 _).set 2 _).set 3 _
              have b8 := below_setc (below_setc (below_setc (below_setc b7 (Nat.le_refl w.heap.size) 0 (.int .i64 op)) (Nat.le_refl w.heap.size) 1 (.bool nwv)) (Nat.le_refl w.heap.size) 2 (.int .i64 (x1.toNat : Int))) (Nat.le_refl w.heap.size) 3 (.slice none 0 0)
              have K8 := (((K7.set 0 (.int .i64 op)).set 1 (.bool nwv)).set 2 (.int .i64 (x1.toNat : Int))).set 3 (.slice none 0 0)
              have f8 := f7.same (w' := (((W.setCell ⟨w.heap.size, 0, none⟩ (.int .i64 op)).setCell ⟨w.heap.size, 1, none⟩ (.bool nwv)).setCell ⟨w.heap.size, 2, none⟩ (.int .i64 (x1.toNat : Int))).setCell ⟨w.heap.size, 3, none⟩ (.slice none 0 0)) (by
                have hne2 : w2.heap.size ≠ w.heap.size := fun e => hne e.symm
                rw [Below.heap_setCell _ ⟨w.heap.size, 3, none⟩ _ _ hne2, Below.heap_setCell _ ⟨w.heap.size, 2, none⟩ _ _ hne2, Below.heap_setCell _ ⟨w.heap.size, 1, none⟩ _ _ hne2, Below.heap_setCell _ ⟨w.heap.size, 0, none⟩ _ _ hne2])
              rw [hnw] at B8 b8 K8 f8
              gi_wp2
              generalize hW3 : (((W.setCell ⟨w.heap.size, 0, none⟩ (.int .i64 op)).setCell ⟨w.heap.size, 1, none⟩ (.bool _)).setCell ⟨w.heap.size, 2, none⟩ (.int .i64 (x1.toNat : Int))).setCell ⟨w.heap.size, 3, none⟩ (.slice none 0 0) = W3 at *
              have hlt8 := B8.lt
              have hM8 := f8.lt
              clear hW3 v0 v1 v2 v3 t0 t1 t2 t3 B7 b7 K7 f7 hnw hnwv q1 q2 q3 q4 q5 q6 hmm hand en
              go_wp2
              go_loopw [74] (fun i wr => RFr r s op false (x1.toNat : Int) w w2.heap.size w2 W3 i wr) (fun i _ => r.fields.length - (intOf i).toNat)
              case atStart => exact ⟨0, 6, _, _, by omega, rfl, B8, World.ownsRow_nil _ _ _ _, f8, by omega, by
                  intro i
                  simp only [freeL, List.take_zero, covers, List.any_nil, Bool.or_false]
                  rw [Bool.eq_iff_iff]
                  simp
                  omega, K8, Nat.le_refl _, b8⟩
              case round =>
                rename World => wo
                obtain ⟨k, n, l, v, hk, rfl, hB, hown, hF, hnk, hcl, hKp, hs4, hb⟩ := hrel
                have hs2 := hKp.size
                by_cases hlt : k < r.fields.length
                · obtain ⟨f, hfk⟩ : ∃ f, r.fields[k]? = some f := ⟨r.fields[k], List.getElem?_eq_getElem hlt⟩
                  obtain ⟨_, _, _, _, hat, hs0, hs8⟩ := Hsz.out f (List.mem_of_getElem? hfk)
                  have Hn := hid (valsOf_snoc r s k f hfk)
                  have Hcov := hid (covers_snoc r.fields k f hfk)
                  have HCL := hid hcl
                  obtain ⟨y0, y1, y2⟩ := HFC.out k f hfk
                  have hfm : fb ≠ w2.heap.size := by omega
                  have y0 := (hKp.cell (p := ⟨fb, fo + k * 3, none⟩) hfb hfg hfm).trans y0
                  have y1 := (hKp.cell (p := ⟨fb, fo + k * 3 + 1, none⟩) hfb hfg hfm).trans y1
                  have y2 := (hKp.cell (p := ⟨fb, fo + k * 3 + 2, none⟩) hfb hfg hfm).trans y2
                  have sm := fun W => str_mid s f.at_ f.size (by omega) (by omega) W
                  have s4 : IntKind.i64.wrap ((f.at_ : Int) + (f.size : Int)) = (f.at_ : Int) + (f.size : Int) := by rw [IntKind.wrap_i64]; omega
                  have cG := fun W => hid (unnum_bs ((s.drop f.at_).take f.size) (by rw [slice_len s f (by omega)]; exact hs8) W)
                  have hvo : num ((s.drop f.at_).take f.size) = valOf s f := rfl
                  rw [hvo] at cG
                  clear hvo
                  generalize (s.drop f.at_).take f.size = sl at *
                  generalize valOf s f = xv at *
                  generalize u64Cells ((valsOf r s).take k) = xs at *
                  have hA := (Below.refl wo.heap.size wo).alloc (Nat.le_refl _) (.cells #[.string (bs f.name), .int .i64 (f.at_ : Int), .int .i64 (f.size : Int)] 230)
                  have hB2 := hB.below hA
                  have hK2 := hKp.below hA
                  have hO2 := owns_below hown hA
                  have hF2 := hF.below hA
                  have hbA := hb.trans (hA.mono hb.size)
                  have hN := Blk.new wo 230 #[.string (bs f.name), .int .i64 (f.at_ : Int), .int .i64 (f.size : Int)]
                  have q8 := hB.lt
                  have qM := hF.lt
                  clear hfk hcl
                  go_wp2_with fail
                  go_loopw [80] (fun i wi => RFi f l n w2.heap.size (wo.alloc (.cells #[.string (bs f.name), .int .i64 (f.at_ : Int), .int .i64 (f.size : Int)] 230)) i wi) (fun i _ => f.size - (intOf i).toNat)
                  case atStart => exact ⟨0, l, by omega, rfl, hF2, fun i => by
                      have : (decide (f.at_ ≤ i) && decide (i < f.at_ + 0)) = false := by
                        simp <;> omega
                      rw [this, Bool.or_false], only_refl _ _⟩
                  case round =>
                    obtain ⟨j, l2, hj, rfl, hF3, hc3, hg3⟩ := hrel
                    have hs3 := hg3.size
                    have z1 : wr.cell? ⟨wo.heap.size, 1, none⟩ = some (.int .i64 (f.at_ : Int)) := (grown_cell hg3 (p := ⟨wo.heap.size, 1, none⟩) hN.lt (by show wo.heap.size ≠ _; omega)).trans ((hN.cell 1).trans rfl)
                    by_cases hjl : j < f.size
                    · have hjw : IntKind.i64.wrap ((f.at_ : Int) + (j : Int)) = (f.at_ : Int) + (j : Int) := by rw [IntKind.wrap_i64]; omega
                      obtain ⟨m7, q7, f7, g7⟩ := hF3.put (by omega) ((f.at_ : Int) + (j : Int)) (by omega) (by omega)
                      have HC3 := hid hc3
                      clear hc3
                      go_wp2
                      go_roundw
                      case rel => exact ⟨j + 1, _, by omega, by go_num, f7, fun i => by
                          rw [List.contains_cons, HC3.out]
                          by_cases h1 : (i : Int) = (f.at_ : Int) + (j : Int)
                          · have h2 : ((i : Int) == (f.at_ : Int) + (j : Int)) = true := by simpa using h1
                            rw [h2, Bool.true_or]
                            have h3 : (decide (f.at_ ≤ i) && decide (i < f.at_ + (j + 1))) = true := by simp; omega
                            rw [h3, Bool.or_true]
                          · have h2 : ((i : Int) == (f.at_ : Int) + (j : Int)) = false := by simpa using h1
                            rw [h2, Bool.false_or]
                            congr 2
                            rw [decide_eq_decide]
                            omega, only_trans hg3 g7⟩
                      case measure => simp [intOf]; omega
                    · obtain rfl : j = f.size := by omega
                      have hne3 : w.heap.size ≠ w2.heap.size := hne
                      have hB4 := hB2.other hg3 hne3
                      have hK4 := hK2.map hg3
                      have hO4 := owns_other hO2 hg3 hM8
                      have hb4 := below_only hbA hg3 b2.size hbA.size
                      have z2 : wr.cell? ⟨wo.heap.size, 2, none⟩ = some (.int .i64 (f.size : Int)) := (grown_cell hg3 (p := ⟨wo.heap.size, 2, none⟩) hN.lt (by show wo.heap.size ≠ _; omega)).trans ((hN.cell 2).trans rfl)
                      have HC3 := hid hc3
                      clear hc3
                      go_wp2_with fail
                      refine (cG _).out.mono ?_
                      rintro e w5 ⟨rfl, hb5⟩
                      have hB5 := hB4.below hb5
                      have hK5 := hK4.below hb5
                      have hO5 := owns_below hO4 hb5
                      have hF5 := hF3.below hb5
                      have hb6 := hb4.trans (hb5.mono hb4.size)
                      have hA3 := (Below.refl w5.heap.size w5).alloc (Nat.le_refl _) (.cells #[.int .u64 (xv : Nat)] 122)
                      have hB6 := hB5.below hA3
                      have hK6 := hK5.below hA3
                      have hO6 := owns_below hO5 hA3
                      have hF6 := hF5.below hA3
                      have hb7 := hb6.trans (hA3.mono hb6.size)
                      have t3 : w5.cell? ⟨w.heap.size, 3, none⟩ = some v := (hB5.cell 3).trans rfl
                      have t3' : (w5.alloc (.cells #[.int .u64 (xv : Nat)] 122)).cell? ⟨w.heap.size, 3, none⟩ = some v := (hB6.cell 3).trans rfl
                      have hs5 : W3.heap.size ≤ w5.heap.size := by have h1 := hb5.size; have h2 := hg3.size; simp at h2; omega
                      have hs6 : W3.heap.size ≤ (w5.alloc (.cells #[.int .u64 (xv : Nat)] 122)).heap.size := by simp; omega
                      go_wp2_with (at_builtin; refine list_append_own rfl (.tmp 103) (.tmp 105) 35 rfl W3.heap.size 122 (.int .u64 0) 1 8 Tryz.underlying35 infoU64 rfl (by decide) v k xs rfl hO6 ⟨w5.heap.size, 0, none⟩ 1 1 [.int .u64 (xv : Nat)] rfl rfl (by intro j u hu; (have hj : j = 0 := by (have := (List.getElem?_eq_some_iff.1 hu).1; simp at this; exact this)); subst hj; simp at hu; subst hu; rw [show (⟨w5.heap.size, 0, none⟩ : Addr).add 0 = ⟨w5.heap.size, 0, none⟩ from rfl, cell_of_row _ _ _ _ _ _ (heap_alloc_new _ _)]; rfl) (by simp [Value.oneCell']) (by unfold maxLen; omega) (by omega) hs6 ?_; intro v' w8 hown8 hgrow _; obtain ⟨sa', sc', rfl⟩ := own_sl hown8; have hB8 := hB6.grown hO6 hgrow hlt8; have hK8 := hK6.grown hO6 (by omega) hgrow; have hF8 : FreeM w8 w2.heap.size (n + f.size) l2 := hF6.kept hgrow (fun e => by have h1 := (hO6.lt _ e.symm).1; omega); have u3 : w8.cell? ⟨w.heap.size, 3, none⟩ = some v := (hB8.cell 3).trans rfl; have fz3 := hB8.free 3)
                      refine ⟨⟨k + 1, n + f.size, l2, _, by omega, by go_num, hB8.set 3 _, by rw [Hn.out]; exact owns_set hown8 hlt8 _, hF8.same (Below.heap_setCell _ ⟨w.heap.size, 3, none⟩ _ _ (fun e => hne e.symm)), by omega, fun i => by rw [HC3.out, HCL.out]; unfold freeL; rw [Hcov.out, Bool.or_assoc], hK8.set 3 _, ?_, below_setc (below_append hb7 (owns_base hO6 (Nat.le_of_lt hlt8)) hgrow hb7.size) (Nat.le_refl _) _ _⟩, by simp [intOf]; omega⟩
                      have h1 := hgrow.size
                      simp [World.setCell] at h1 ⊢
                      omega
                · obtain rfl : k = r.fields.length := by omega
                  obtain ⟨va, vc, rfl⟩ := own_sl hown
                  have hvl : (valsOf r s).length = r.fields.length := by simp [valsOf]
                  have hfa : ∀ i : Nat, l.contains (i : Int) = freeAt r i := fun i => by rw [hcl i, List.take_length]; rfl
                  rw [List.take_of_length_le (by omega)] at hown
                  have HFA := hid hfa
                  have HF := hid hF
                  have hwsz := hb.size
                  clear hfa hcl hKp hF
                  go_wp2
                  go_loopw [111] (fun i wr => RFs s r wo i wr) (fun i _ => 48 - (intOf i).toNat)
                  case atStart => exact ⟨0, by omega, rfl, fun j hj => by omega, rfl⟩
                  case round =>
                    obtain ⟨k, hk, rfl, hno, rfl⟩ := hrel
                    by_cases hk48 : k < 48
                    · have hlk := HF.out.look (k : Int) (by omega) (by omega)
                      rw [HFA.out k] at hlk
                      have hkl : k < s.length := by omega
                      obtain ⟨x, hx⟩ : ∃ x, s[k] = x := ⟨_, rfl⟩
                      have hgd : s.getD k 0 = x := by rw [← hx]; simp [List.getD, hkl]
                      have HNO := hid hno
                      clear hno
                      cases hfr : freeAt r k with
                      | true =>
                        rw [hfr] at hlk
                        go_wp2
                        go_roundw
                        case rel => exact ⟨k + 1, by omega, by go_num, fun j hj => by
                            rcases Nat.lt_or_ge j k with h | h
                            · exact HNO.out j h
                            · obtain rfl : j = k := by omega
                              rw [hfr]; rfl, rfl⟩
                        case measure => simp [intOf]; omega
                      | false =>
                        rw [hfr] at hlk
                        cases hxb : x != 0 with
                        | true =>
                          have hxi : ((x.toNat : Int) != 0) = true := by
                            rw [bne_iff_ne] at hxb ⊢
                            intro h
                            exact hxb (UInt8.toNat_inj.1 (by have : x.toNat = 0 := by omega
                                                             rw [this]; rfl))
                          have HRf := hid (show readH s = readNo 3 by
                            rw [HR2.out, if_pos]
                            exact List.any_eq_true.2 ⟨k, List.mem_range.2 hk48, by rw [hfr, hgd, hxb]; rfl⟩)
                          clear hfr hgd hxb
                          have v0 := hB.free 0; have v1 := hB.free 1; have v2 := hB.free 2; have v3 := hB.free 3
                          have t0 : World.cell? _ ⟨w.heap.size, 0, none⟩ = some (.int .i64 op) := (hB.cell 0).trans rfl
                          have t1 : World.cell? _ ⟨w.heap.size, 1, none⟩ = some (.bool false) := (hB.cell 1).trans rfl
                          have t2 : World.cell? _ ⟨w.heap.size, 2, none⟩ = some (.int .i64 (x1.toNat : Int)) := (hB.cell 2).trans rfl
                          have t3 : World.cell? _ ⟨w.heap.size, 3, none⟩ = some (.slice va r.fields.length vc) := (hB.cell 3).trans rfl
                          go_wp2
                          refine bodyPost_ret (v := .tuple #[headV 0 false 0 (.slice none 0 0), .int .i64 0, .int .i64 0, .int .i64 3]) (by simp [results, Tryz.results77, go_sem, t0, t1, t2, t3]; rfl) rfl ?_
                          refine ⟨_, by rw [HRf.out]; rfl, by rw [HRf.out]; exact sl_nil _ _, ?_⟩
                          iterate 4 refine below_setc ?_ (Nat.le_refl w.heap.size) _ _
                          exact hb
                        | false =>
                          have hxi : ((x.toNat : Int) != 0) = false := by
                            have h : x = 0 := by simpa using hxb
                            rw [h]; rfl
                          have HN2 := hid (show (!freeAt r k && (s.getD k 0 != 0)) = false by rw [hgd, hxb, Bool.and_false])
                          clear hfr hgd hxb
                          go_wp2
                          go_roundw
                          case rel => exact ⟨k + 1, by omega, by go_num, fun j hj => by
                              rcases Nat.lt_or_ge j k with h | h
                              · exact HNO.out j h
                              · obtain rfl : j = k := by omega
                                exact HN2.out, rfl⟩
                          case measure => simp [intOf]; omega
                    · obtain rfl : k = 48 := by omega
                      have HRf := hid (show readH s = _ by
                        rw [HR2.out, if_neg]
                        intro h
                        obtain ⟨j, hj, h⟩ := List.any_eq_true.1 h
                        rw [hno j (List.mem_range.1 hj)] at h
                        cases h)
                      have sm : ∀ W, (Instr.slice 9 (.string (bs s)) (some (.int .i64 5)) (some (.int .i64 8)) none).run Tryz.prog W = .ok (.string (bs ((s.drop 5).take 3))) W := fun W => str_mid s 5 3 (by omega) (by omega) W
                      have cG := fun W => hid (unnum_bs ((s.drop 5).take 3) (by simp; omega) W)
                      have hN3 := num_lt ((s.drop 5).take 3)
                      have hl3 : ((s.drop 5).take 3).length = 3 := by simp; omega
                      rw [hl3] at hN3
                      clear hno
                      generalize num ((s.drop 5).take 3) = N3 at *
                      generalize (s.drop 5).take 3 = s3 at *
                      go_wp2_with fail
                      refine (cG _).out.mono ?_
                      rintro e w5 ⟨rfl, hb5⟩
                      have hB5 := hB.below hb5
                      have hO5 := owns_below hown hb5
                      have hb6 := hb.trans (hb5.mono hb.size)
                      go_wp2
                      have hx4w : IntKind.i64.wrap (x4.toNat : Int) = (x4.toNat : Int) := by have := x4.toNat_lt; rw [IntKind.wrap_i64]; omega
                      have hn3w : IntKind.i64.wrap (N3 : Int) = (N3 : Int) := by rw [IntKind.wrap_i64]; omega
                      refine wpIn_wide (n := 4).1 ?_
                      refine region_inv (aF := ?kE1) [(132, .agg #[.int .i64 op, .bool false, .int .i64 (x1.toNat : Int), .slice va r.fields.length vc]), (133, .string (bs s)), (134, .int .u8 (x4.toNat : Int)), (135, .int .i64 (x4.toNat : Int)), (136, .int .u64 (N3 : Int)), (137, .int .i64 (N3 : Int)), (3, .int .i64 (x4.toNat : Int)), (4, .int .i64 (N3 : Int)), (5, .int .i64 0)] (fun W => Blk W w.heap.size 37 (HC op false (x1.toNat : Int) (.slice va r.fields.length vc)) ∧ W.ownsRow W3.heap.size 122 1 (.slice va r.fields.length vc) r.fields.length (u64Cells (valsOf r s)) ∧ Below w.heap.size w W) ?kF1 hmx (by kernel_rfl) (by kernel_rfl) ⟨hB5, hO5.drew, hb6.drew⟩ ?kG1 ?kH1
                      case kF1 =>
                        simp only [putAll, List.foldl_cons, List.foldl_nil, List.setIfInBounds_toArray, List.set_cons_zero, List.set_cons_succ]
                        exact rfl
                      case kG1 =>
                        refine ⟨?_, ?_, ?_, ?_, ?_, ?_, ?_, ?_, ?_, ?_, trivial⟩
                        all_goals refine ⟨fun d hd => by simp at hd <;> (subst hd; simp), fun W h => ⟨by simp [go_sem, Oper.about], ?_⟩⟩
                        all_goals obtain ⟨hBW, hOW, hbW⟩ := h
                        all_goals
                          have v0 := hBW.free 0; have v1 := hBW.free 1; have v2 := hBW.free 2; have v3 := hBW.free 3
                          have t0 : W.cell? ⟨w.heap.size, 0, none⟩ = some (.int .i64 op) := (hBW.cell 0).trans rfl
                          have t1 : W.cell? ⟨w.heap.size, 1, none⟩ = some (.bool false) := (hBW.cell 1).trans rfl
                          have t2 : W.cell? ⟨w.heap.size, 2, none⟩ = some (.int .i64 (x1.toNat : Int)) := (hBW.cell 2).trans rfl
                          have t3 : W.cell? ⟨w.heap.size, 3, none⟩ = some (.slice va r.fields.length vc) := (hBW.cell 3).trans rfl
                        all_goals first
                          | (simp [OpInv, go_sem, hl, hx4, hx4w, hn3w, hBW, hOW, hbW]; done)
                          | (simp [OpInv, go_sem, t0, t1, t2, t3, hBW, hOW, hbW]; done)
                          | skip
                        all_goals
                          simp [OpInv, go_sem, t0, t1, t2, t3, v0, v1, v2, v3]
                        all_goals
                          exact ⟨(((hBW.set 0 _).set 1 _).set 2 _).set 3 _, owns_set (owns_set (owns_set (owns_set hOW hlt8 _) hlt8 _) hlt8 _) hlt8 _, below_setc (below_setc (below_setc (below_setc hbW (Nat.le_refl w.heap.size) _ _) (Nat.le_refl w.heap.size) _ _) (Nat.le_refl w.heap.size) _ _) (Nat.le_refl w.heap.size) _ _⟩
                      case kH1 =>
                        rintro W ⟨hBW, hOW, hbW⟩
                        have t0 : W.cell? ⟨w.heap.size, 0, none⟩ = some (.int .i64 op) := (hBW.cell 0).trans rfl
                        have t1 : W.cell? ⟨w.heap.size, 1, none⟩ = some (.bool false) := (hBW.cell 1).trans rfl
                        have t2 : W.cell? ⟨w.heap.size, 2, none⟩ = some (.int .i64 (x1.toNat : Int)) := (hBW.cell 2).trans rfl
                        have t3 : W.cell? ⟨w.heap.size, 3, none⟩ = some (.slice va r.fields.length vc) := (hBW.cell 3).trans rfl
                        gi_wp2
                        go_wp2
                        refine bodyPost_ret (v := .tuple #[headV op false (x1.toNat : Int) (.slice va r.fields.length vc), .int .i64 (x4.toNat : Int), .int .i64 (N3 : Int), .int .i64 0]) (by simp [results, Tryz.results77, go_sem, t0, t1, t2, t3]; rfl) rfl ?_
                        have hsl := sl_of_owns hOW
                        exact ⟨_, by rw [HRf.out]; rfl, by rw [HRf.out]; rw [← hvl] at hsl; exact hvl ▸ hsl, hbW⟩
  · have HR := hid (show readH s = readNo 7 by unfold readH; rw [if_pos hl])
    have hli : ¬ (s.length : Int) = 48 := by omega
    go_enter Tryz.func77, Tryz.ntmps77
    go_wp2
    refine bodyPost_ret (v := .tuple #[headV 0 false 0 (.slice none 0 0), .int .i64 0, .int .i64 0, .int .i64 7]) (by simp [results, Tryz.results77, go_sem]; rfl) rfl ?_
    exact ⟨_, by rw [HR.out]; rfl, by rw [HR.out]; exact sl_nil _ _, b1⟩
end
end Go.Proofs.YtfeenkofnbefaaaGreatDoor
