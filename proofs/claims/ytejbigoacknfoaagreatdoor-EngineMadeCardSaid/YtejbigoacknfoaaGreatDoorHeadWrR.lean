/- A head in 48 bytes: by the document. -/
import Derived.Test.YtejbigoacknfoaaGreatDoorHeadWrPure
import Derived.Test.YtejbigoacknfoaaGreatDoorHeadRightR
import Derived.Test.YtejbigoacknfoaaGreatDoorFaultIs
import Derived.Test.YtejbigoacknfoaaGreatDoorWithin
import Derived.Test.YtejbigoacknfoaaGreatDoorRel
import Derived.Test.YtejbigoacknfoaaGreatDoorShelfR
set_option linter.unusedSectionVars false
set_option linter.unusedSimpArgs false
set_option linter.unusedVariables false
namespace Go.Proofs.YtejbigoacknfoaaGreatDoor
open Go Go.RowKit
set_option linter.unusedVariables false
set_option linter.unusedSectionVars false
set_option linter.unusedSimpArgs false
set_option maxRecDepth 100000
theorem str_to (L : List UInt8) (k : Nat) (hk : k ≤ L.length) (hL : L.length ≤ 1000000) (w : World) :
    (Instr.slice 9 (.string (bs L)) none (some (.int .i64 (k : Int))) none).run Tryz.prog w = .ok (.string (bs (L.take k))) w := by
  simp [go_sem]
  intro h; omega
theorem str_from (L : List UInt8) (k : Nat) (hk : k ≤ L.length) (hL : L.length ≤ 1000000) (w : World) :
    (Instr.slice 9 (.string (bs L)) (some (.int .i64 (k : Int))) none none).run Tryz.prog w = .ok (.string (bs (L.drop k))) w := by
  simp [go_sem]
  intro h; omega
def WriteRPost (op : Int) (now : Bool) (flags : Int) (vs : List Nat) (words data : Int) (w : World) (e : Ending) (w' : World) : Prop :=
  e = .returned (.tuple #[.string (bs (writeH op now flags vs words data).1), faultV (writeH op now flags vs words data).2.1 (writeH op now flags vs words data).2.2]) ∧ Below w.heap.size w w'
def RWrR (r : HR) (vs : List Nat) (L0 : List UInt8) (w4 : World) (o i : Value) (wr : World) : Prop :=
  ∃ (k : Nat) (L : List UInt8), k ≤ r.fields.length ∧ i = .int .i64 (k : Nat) ∧ o = .string (bs L) ∧ L.length = 48 ∧ writeF r.fields vs L0 = writeF (r.fields.drop k) (vs.drop k) L ∧ Below w4.heap.size w4 wr
section
variable (op : Int) (now : Bool) (flags : Int) (v : Value) (vs : List Nat) (words data : Int) (w : World) (h0 : -9223372036854775808 ≤ op) (h1 : op ≤ 9223372036854775807) (g0 : -9223372036854775808 ≤ flags) (g1 : flags ≤ 9223372036854775807)
  (hn : vs.length ≤ 9223372036854775807) (hv : ∀ x ∈ vs, x ≤ 18446744073709551615) (hsl : Sl w v 1 vs.length (u64Cells vs))
include h0 h1 g0 g1 hn hv hsl
set_option maxHeartbeats 4000000 in
theorem rwrite_any : Calls Tryz.prog 72 #[headV op now flags v, .int .i64 words, .int .i64 data] w fun e w' => WriteRPost op now flags vs words data w e w' := by
  have c1 := fun w1 (hb : Below w.heap.size w w1) => hid (rright_any op now flags v vs w1 h0 h1 g0 g1 hn hv (hsl.below (Nat.le_refl _) hb))
  have ck := fun w1 => hid (kind_any op w1)
  have cb := fun k w1 => hid (bareF_any k w1)
  have cg := fun w1 => hid (good_any w1)
  have ci := fun k pl w1 => hid (faultIs_any k pl w1)
  unfold RRightPost at c1
  unfold KindPost at ck
  unfold WriteRPost
  have HSL := hid hsl
  obtain ⟨sa, sc, rfl, hsl1, hsl2⟩ := hsl
  clear hsl2
  have b1 := ((Below.refl w.heap.size w).alloc (Nat.le_refl _) (.cells #[.int .i64 op, .bool now, .int .i64 flags, .slice sa vs.length sc] 52)).alloc (by simp) (.cells #[.int .i64 0, .int .i64 0] 24)
  have B1 := (Blk.new w 52 #[.int .i64 op, .bool now, .int .i64 flags, .slice sa vs.length sc]).below ((Below.refl _ _).alloc (Nat.le_refl _) (.cells #[.int .i64 0, .int .i64 0] 24))
  have E1 := Blk.new (w.alloc (.cells #[.int .i64 op, .bool now, .int .i64 flags, .slice sa vs.length sc] 52)) 24 #[.int .i64 0, .int .i64 0]
  simp only [World.size_alloc] at E1
  by_cases hz : (rightH op now flags vs).1 = 0
  · obtain ⟨r, F⟩ := right_fit op now flags vs hz
    have hop := fit_op F
    have hmem := findH_mem F.find
    have hn0 := fields_pos r hmem
    have hvl : 0 < vs.length := by have := F.len; omega
    have hsz := (head_fine r hmem).2.2.2.2.2.2.2
    have hnf := (head_fine r hmem).2.2.2.2.2.2.1
    have ck := fun w1 => hid ((ck w1).out)
    rw [F.all] at c1
    rw [F.find] at ck
    simp only [hFields, hName, hFlags, Option.isSome_some] at ck
    have HF := hid F
    have hlow := F.low; have hfl0 := F.flags0; have hfl1 := F.flags1; have hlen := F.len
    have Hsz := hid hsz; have Hv := hid hv
    clear hsz hv hz hmem F hsl1
    unfold faultV at c1
    go_enter Tryz.func72, Tryz.ntmps72
    unfold headV
    go_wp2_with fail
    refine (c1 _ b1).out.mono ?_
    rintro e w1 ⟨rfl, hb⟩
    have E2 := E1.below hb
    have B2 := B1.below hb
    have b2 := b1.trans (hb.mono b1.size)
    have b3 := b2.alloc b2.size (.cells #[.int .i64 (0 : Nat), .int .i64 (-1)] 24)
    have E3 := E2.below ((Below.refl _ _).alloc (Nat.le_refl _) (.cells #[.int .i64 (0 : Nat), .int .i64 (-1)] 24))
    have B3 := B2.below ((Below.refl _ _).alloc (Nat.le_refl _) (.cells #[.int .i64 (0 : Nat), .int .i64 (-1)] 24))
    clear hb
    go_wp2_with fail
    refine (ci 0 (-1) _).out.mono ?_
    rintro e w2 ⟨rfl, hb2⟩
    have E4 := E3.below hb2
    have B4 := B3.below hb2
    have b4 := b3.trans (hb2.mono b3.size)
    clear B1 B2 B3 E1 E2 E3 b1 b2 b3 hb2 ci c1
    by_cases hw : words < 0 ∨ 255 < words ∨ data < 0 ∨ 16777215 < data
    · have HR := hid (show writeH op now flags vs words data = ([], 4, -1) by simp only [writeH, HF.out.all]; rw [if_neg (by simp), if_pos hw])
      by_cases hw1 : words < 0 ∨ 255 < words
      · have c4 := fun w => hid (within_false words 0 255 w hw1)
        clear hw hw1
        go_wp2_with fail
        refine (c4 _).out.mono ?_; rintro e _ ⟨rfl, rfl⟩
        go_wp2_with fail
        refine (cb 4 _).out.mono ?_
        rintro e w3 ⟨rfl, hb3⟩
        have E5 := E4.below hb3
        have b5 := b4.trans (hb3.mono b4.size)
        have t0 : w3.cell? ⟨w.heap.size + 1, 0, none⟩ = some (.int .i64 0) := (E5.cell 0).trans rfl
        have t1 : w3.cell? ⟨w.heap.size + 1, 1, none⟩ = some (.int .i64 0) := (E5.cell 1).trans rfl
        have v0 := E5.free 0
        have v1 := E5.free 1
        go_wp2
        refine bodyPost_ret (v := .tuple #[.string (bs []), .agg #[.int .i64 4, .int .i64 (-1)]]) (by simp [results, Tryz.results72, go_sem, t0, t1]; rfl) rfl ?_
        exact ⟨by rw [HR.out]; rfl, below_setc (below_setc b5 (by omega) _ _) (by omega) _ _⟩
      · have c4 := fun w => hid (within_true words 0 255 w (by omega) (by omega))
        have c5 := fun w => hid (within_false data 0 16777215 w (by omega))
        clear hw hw1
        go_wp2_with fail
        refine (c4 _).out.mono ?_; rintro e _ ⟨rfl, rfl⟩
        go_wp2_with fail
        refine (c5 _).out.mono ?_; rintro e _ ⟨rfl, rfl⟩
        go_wp2_with fail
        refine (cb 4 _).out.mono ?_
        rintro e w3 ⟨rfl, hb3⟩
        have E5 := E4.below hb3
        have b5 := b4.trans (hb3.mono b4.size)
        have t0 : w3.cell? ⟨w.heap.size + 1, 0, none⟩ = some (.int .i64 0) := (E5.cell 0).trans rfl
        have t1 : w3.cell? ⟨w.heap.size + 1, 1, none⟩ = some (.int .i64 0) := (E5.cell 1).trans rfl
        have v0 := E5.free 0
        have v1 := E5.free 1
        go_wp2
        refine bodyPost_ret (v := .tuple #[.string (bs []), .agg #[.int .i64 4, .int .i64 (-1)]]) (by simp [results, Tryz.results72, go_sem, t0, t1]; rfl) rfl ?_
        exact ⟨by rw [HR.out]; rfl, below_setc (below_setc b5 (by omega) _ _) (by omega) _ _⟩
    · have hq : 0 ≤ words ∧ words ≤ 255 ∧ 0 ≤ data ∧ data ≤ 16777215 := by omega
      obtain ⟨q0, q1, q2, q3⟩ := hq
      have HR := hid (show writeH op now flags vs words data = (writeF r.fields vs (head48 op now flags words data), 0, -1) by simp only [writeH, HF.out.all]; rw [if_neg (by simp), if_neg hw, HF.out.find]; rfl)
      have c4 := fun w => hid (within_true words 0 255 w q0 q1)
      have c5 := fun w => hid (within_true data 0 16777215 w q2 q3)
      clear hw
      have hE3 : putE data.toNat 3 = 0 := by unfold putE; rw [if_neg (by omega), if_neg (by simp; omega)]
      have hS3 : putS data.toNat 3 = be data.toNat 3 := by unfold putS; rw [if_pos hE3]; rfl
      have c6 := fun w => hid (number_any data.toNat 3 w (by omega))
      rw [hE3, hS3, Int.toNat_of_nonneg q2] at c6
      have p0 : w2.cell? ⟨w.heap.size, 0, none⟩ = some (.int .i64 op) := (B4.cell 0).trans rfl
      have p1 : w2.cell? ⟨w.heap.size, 1, none⟩ = some (.bool now) := (B4.cell 1).trans rfl
      have hsu : IntKind.u64.wrap data = data := by rw [IntKind.wrap_u64]; omega
      go_wp2_with fail
      refine (c4 _).out.mono ?_; rintro e _ ⟨rfl, rfl⟩
      go_wp2_with fail
      refine (c5 _).out.mono ?_; rintro e _ ⟨rfl, rfl⟩
      have hX : ∃ x : UInt8, ((x.toNat : Int) = op + if now then 64 else 0) ∧ x = UInt8.ofNat (op.toNat + if now then 64 else 0) := by
        refine ⟨_, ?_, rfl⟩
        cases now
        · simp; omega
        · have := hlow rfl; simp; omega
      obtain ⟨x, hx, hxe⟩ := hX
      have h48 : [x, UInt8.ofNat flags.toNat, 0, 0, UInt8.ofNat words.toNat] ++ be data.toNat 3 ++ List.replicate 40 0 = head48 op now flags words data := by rw [hxe]; rfl
      have hZ : ∃ Z0 : List UInt8, Z0.length = 40 ∧ ([x, UInt8.ofNat flags.toNat, 0, 0, UInt8.ofNat words.toNat] ++ be data.toNat 3 ++ Z0 = head48 op now flags words data) ∧ ∀ W, Calls Tryz.prog 120 #[.string ⟨#[0]⟩, .int .i64 40] W fun e w' => e = .returned (.string (bs Z0)) ∧ Below W.heap.size W w' :=
        ⟨List.replicate 40 0, rfl, h48, fun W => (Tryz.strings_Repeat ⟨#[0]⟩ 40 W (by omega) (by decide)).mono fun e w' h => h⟩
      obtain ⟨Z0, h40, h48, hZ⟩ := hZ
      have H48 := hid h48; clear h48
      have HZ := hid hZ; clear hZ
      have hL0 := head48_length op now flags words data
      have hf8 := u8_nat flags hfl0 hfl1
      have hw8 := u8_nat words q0 q1
      generalize head48 op now flags words data = L0 at *
      generalize UInt8.ofNat flags.toNat = fx at *
      generalize UInt8.ofNat words.toNat = wx at *
      clear hxe
      obtain rfl : flags = (fx.toNat : Int) := hf8.symm
      obtain rfl : words = (wx.toNat : Int) := hw8.symm
      cases now
      case' false => have HX := hid (show op = (x.toNat : Int) by simpa using hx.symm)
      case' true =>
        have hor : IntKind.i64.wrap (op + 64) = op + 64 := by rw [IntKind.wrap_i64]; omega
        have HX := hid (show op + 64 = (x.toNat : Int) by simpa using hx.symm)
      · clear hx
        go_wp2_with fail
        refine (c6 _).out.mono ?_; rintro e w3 ⟨rfl, hb3⟩
        have E5 := E4.below hb3
        have B5 := B4.below hb3
        have b5 := b4.trans (hb3.mono b4.size)
        have p2 : w3.cell? ⟨w.heap.size, 2, none⟩ = some (.int .i64 (fx.toNat : Int)) := (B5.cell 2).trans rfl
        clear p0 p1 hb3
        go_wp2_with fail
        rw [HX.out]
        have hmx : Tryz.prog.follows .mixedOrders = true := by kernel_rfl
        have hx8 : IntKind.u8.wrap (x.toNat : Int) = (x.toNat : Int) := by have := x.toNat_lt; rw [IntKind.wrap_u8]; omega
        have hf8 : IntKind.u8.wrap (fx.toNat : Int) = (fx.toNat : Int) := by have := fx.toNat_lt; rw [IntKind.wrap_u8]; omega
        have hw8 : IntKind.u8.wrap (wx.toNat : Int) = (wx.toNat : Int) := by have := wx.toNat_lt; rw [IntKind.wrap_u8]; omega
        have h3l := be_length data.toNat 3
        have h60 : x :: fx :: 0 :: 0 :: wx :: (be data.toNat 3 ++ Z0) = L0 := H48.out
        refine wpIn_wide (n := 4).1 ?_
        refine region_rel_last (aF := ?kA0) [55] (fun _ v W => ∃ g, v = .slice (some ⟨g, 0, none⟩) 5 5 ∧ Blk W g 5 (bcells [x, fx, 0, 0, wx])) [(48, some (.int .i64 (x.toNat : Int))), (49, some (.int .u8 (x.toNat : Int))), (50, some (.pointer (some ⟨w.heap.size, 2, none⟩))), (51, some (.int .i64 (fx.toNat : Int))), (52, some (.int .u8 (fx.toNat : Int))), (53, some (.int .i64 (wx.toNat : Int))), (54, some (.int .u8 (wx.toNat : Int))), (55, none), (56, some (.string (bs [x, fx, 0, 0, wx]))), (57, some (.string (bs (be data.toNat 3)))), (58, some (.string (bs ([x, fx, 0, 0, wx] ++ be data.toNat 3)))), (59, some (.string (bs Z0))), (60, some (.string (bs L0)))] (fun w' => Below w3.heap.size w3 w') 13 ?kB0 hmx rfl (by kernel_rfl) ?kE0 (fun _ _ _ _ ⟨g, h1, h2⟩ hb => ⟨g, h1, h2.below hb⟩) (fun w w' h hb => h.trans (hb.mono h.size)) (Below.refl _ _).drew ?kC0 rfl ?kD0
        case kB0 =>
          intro g
          simp only [putRel, putAll, List.map_cons, List.map_nil, Option.getD_some, Option.getD_none, List.foldl_cons, List.foldl_nil, List.setIfInBounds_toArray, List.set_cons_zero, List.set_cons_succ]
          exact rfl
        case kE0 => kernel_rfl
        case kC0 =>
          intro g
          refine ⟨?_, ?_, ?_, ?_, ?_, ?_, ?_, ?_, ?_, ?_, ?_, ?_, ?_, trivial⟩
          all_goals refine ⟨by simp, fun W h hg => ⟨?_, ?_⟩⟩
          all_goals first
            | (simp [go_sem, Oper.about]; done)
            | (simp [go_sem, Oper.about]; exact trivial)
            | (have z2 := (h.cell (p := ⟨w.heap.size, 2, none⟩) B5.lt).trans p2; have hrf : ∀ w : World, Below w.heap.size w w := fun w => Below.refl _ w; simp [OpRel, go_sem, z2, hx8, hf8, hw8, hrf, h3l, h40, h60]; done)
            | skip
          · have hrf : ∀ w : World, Below w.heap.size w w := fun w => Below.refl _ w
            simp [OpRel, go_sem]
            exact ⟨Blk.new _ _ _, (Below.refl _ _).alloc (Nat.le_refl _) _⟩
          · obtain ⟨gb, hge, hgb⟩ := hg 55 (by simp) (by simp [Op.operands])
            have hcv := conv_bcells (P := Tryz.prog) W 120 9 5 Tryz.underlying120 Tryz.underlying5 Tryz.underlying9 [x, fx, 0, 0, wx] 5 gb 5 (0, 0) hgb
            simp [OpRel, go_sem, hge]
            rw [show (convert 120 9 (.slice (some ⟨gb, 0, none⟩) 5 5)).run Tryz.prog W = _ from hcv]
            exact ⟨rfl, Below.refl _ _⟩
          · have hc := HZ.out W
            simp [OpRel, go_sem]
            refine callsIn_wide.2 (hc.mono ?_)
            rintro e w5 ⟨rfl, hb⟩
            exact ⟨_, rfl, rfl, hb⟩
        case kD0 =>
          intro g w4 hb4 hg
          have E6 := E5.below hb4
          have B6 := B5.below hb4
          have b6 := b5.trans (hb4.mono b5.size)
          have p0 : w4.cell? ⟨w.heap.size, 0, none⟩ = some (.int .i64 op) := (B6.cell 0).trans rfl
          generalize g 55 = g55
          clear hg hb4 hx8 hf8 hw8 h3l h60
          gi_wp2
          go_wp2_with fail
          refine (ck _).out.mono ?_
          rintro e w5 ⟨fv, rfl, hfs, _, hb7⟩
          have E7 := E6.below hb7
          have B7 := B6.below hb7
          have b7 := b6.trans (hb7.mono b6.size)
          obtain ⟨fb, fo, fc, rfl, hfb, hfc⟩ := fields_open hfs hn0
          obtain ⟨vb, vo, vc, hve, hvb, hvc⟩ := vals_open HSL.out hvl
          cases hve
          have HFC := hid hfc; have HVC := hid hvc
          have HB7 := hid B7; have HE7 := hid E7
          have p3 : w5.cell? ⟨w.heap.size, 3, none⟩ = some (.slice (some ⟨vb, vo, none⟩) vs.length sc) := (B7.cell 3).trans rfl
          have HP3 := hid p3
          have hlt7 := B7.lt
          clear hfc hvc hfs p0 p2 p3 B4 B5 B6 B7 E4 E5 E6 E7 hb7 ck
          go_wp2
          go_loopw [12, 71] (fun o i wr => RWrR r vs L0 w5 o i wr) (fun _ i _ => r.fields.length - (intOf i).toNat)
          case atStart => exact ⟨0, L0, by omega, rfl, rfl, hL0, rfl, Below.refl _ _⟩
          case round =>
            obtain ⟨k, L, hk, rfl, rfl, hL, heq, hb⟩ := hrel
            have hB := hb.size
            have b8 := b7.trans (hb.mono b7.size)
            by_cases hlt : k < r.fields.length
            · obtain ⟨f, hfk⟩ : ∃ f, r.fields[k]? = some f := ⟨r.fields[k], List.getElem?_eq_getElem hlt⟩
              obtain ⟨y, hyk⟩ : ∃ y, vs[k]? = some y := ⟨vs[k]'(by omega), List.getElem?_eq_getElem _⟩
              obtain ⟨_, _, _, _, hat, hs0, hs8⟩ := Hsz.out f (List.mem_of_getElem? hfk)
              have hx64 := Hv.out y (List.mem_of_getElem? hyk)
              have hfit := HF.out.fits k f y hfk hyk
              rw [writeF_drop r.fields vs L k f y hfk hyk] at heq
              have Heq := hid heq
              obtain ⟨y0, y1, y2⟩ := HFC.out k f hfk
              have y0 := (hb.cell (p := ⟨fb, fo + k * 3, none⟩) hfb).trans y0
              have y1 := (hb.cell (p := ⟨fb, fo + k * 3 + 1, none⟩) hfb).trans y1
              have y2 := (hb.cell (p := ⟨fb, fo + k * 3 + 2, none⟩) hfb).trans y2
              have z0 := ((hb.cell (p := ⟨vb, vo + k, none⟩) (Nat.lt_of_lt_of_le hvb b7.size)).trans (b7.cell (p := ⟨vb, vo + k, none⟩) hvb)).trans (HVC.out k y hyk)
              have p3 := (hb.cell (p := ⟨w.heap.size, 3, none⟩) hlt7).trans HP3.out
              have hbl := be_length y f.size
              have hbn := hb.alloc hB (.cells #[.string (bs f.name), .int .i64 (f.at_ : Int), .int .i64 (f.size : Int)] 220)
              have hN := Blk.new wr 220 #[.string (bs f.name), .int .i64 (f.at_ : Int), .int .i64 (f.size : Int)]
              have q9 : vb < wr.heap.size := Nat.lt_of_lt_of_le hvb (Nat.le_trans b7.size hB)
              have q8 : w.heap.size < wr.heap.size := Nat.lt_of_lt_of_le hlt7 hB
              have hklt : k < vs.length := by omega
              have hbe : putE y f.size = 0 ∧ putS y f.size = be y f.size := by
                have : putE y f.size = 0 := by unfold putE; rw [if_neg (by omega), if_neg (by simp; omega)]
                exact ⟨this, by unfold putS; rw [if_pos this]; rfl⟩
              have cn : ∀ w, Hid (Calls Tryz.prog 119 #[.int .u64 (y : Nat), .int .i64 (f.size : Nat)] w fun e w' => e = .returned (.tuple #[.string (bs (be y f.size)), .int .i64 0]) ∧ Below w.heap.size w w') := fun w => by
                have := number_any y (f.size : Int) w hx64
                rw [hbe.1, hbe.2] at this
                exact hid this
              clear heq hfk hyk hbe cb ck c6
              go_wp2
              generalize hw5 : wr.alloc (.cells #[.string (bs f.name), .int .i64 (f.at_ : Int), .int .i64 (f.size : Int)] 220) = w6 at *
              refine wpIn_wide (n := 4).1 ?_
              refine region_puts (aF := ?kF0) [(77, .pointer (some ⟨w.heap.size, 3, none⟩)), (78, .slice (some ⟨vb, vo, none⟩) vs.length sc), (79, .int .i64 (k : Nat)), (80, .pointer (some ⟨vb, vo + k, none⟩)), (81, .int .u64 (y : Nat)), (82, .pointer (some ⟨wr.heap.size, 2, none⟩)), (83, .int .i64 (f.size : Nat)), (84, .tuple #[.string (bs (be y f.size)), .int .i64 0]), (76, .tuple #[.string (bs (be y f.size)), .int .i64 0]), (85, .string (bs (be y f.size))), (86, .int .i64 0), (19, .string (bs (be y f.size))), (20, .int .i64 0)] (fun w' => Below w6.heap.size w6 w') ?kG0 hmx (by kernel_rfl) (by kernel_rfl) (fun w w' h hb => h.trans (hb.mono h.size)) (Below.refl _ _).drew ?kH0 ?kI0
              case kG0 =>
                simp only [putAll, List.foldl_cons, List.foldl_nil, List.setIfInBounds_toArray, List.set_cons_zero, List.set_cons_succ]
                exact rfl
              case kH0 =>
                have hl5 : wr.heap.size ≤ w6.heap.size := by rw [← hw5]; simp
                have e5 : ∀ p : Addr, p.block < wr.heap.size → w6.cell? p = wr.cell? p := fun p hp => by rw [← hw5]; exact World.cell?_alloc_lt _ _ _ hp
                have z3 : ∀ w', Below w6.heap.size w6 w' → w'.cell? ⟨w.heap.size, 3, none⟩ = some (.slice (some ⟨vb, vo, none⟩) vs.length sc) := fun w' h => (h.cell (p := ⟨w.heap.size, 3, none⟩) (Nat.lt_of_lt_of_le q8 hl5)).trans ((e5 _ q8).trans p3)
                have zx : ∀ w', Below w6.heap.size w6 w' → w'.cell? ⟨vb, vo + k, none⟩ = some (.int .u64 (y : Int)) := fun w' h => (h.cell (p := ⟨vb, vo + k, none⟩) (Nat.lt_of_lt_of_le q9 hl5)).trans ((e5 _ q9).trans z0)
                have zs : ∀ w', Below w6.heap.size w6 w' → w'.cell? ⟨wr.heap.size, 2, none⟩ = some (.int .i64 (f.size : Int)) := fun w' h => (h.cell (p := ⟨wr.heap.size, 2, none⟩) hN.lt).trans ((hN.cell 2).trans rfl)
                have hrf : ∀ w : World, Below w.heap.size w w := fun w => Below.refl _ w
                clear y0 y1 y2 z0 p3 Heq
                simp +contextual [EachOp, OpTo, go_sem, Oper.about, z3, zx, zs, hrf, hklt]
                exact fun w' h => ⟨trivial, callsIn_wide.2 (cn w').out⟩
              case kI0 =>
                intro w' hb'
                have hN3 := hN.below hb'
                have hb9 := hbn.trans (hb'.mono hbn.size)
                have y1' : w'.cell? ⟨wr.heap.size, 1, none⟩ = some (.int .i64 (f.at_ : Int)) := (hN3.cell 1).trans rfl
                have y2' : w'.cell? ⟨wr.heap.size, 2, none⟩ = some (.int .i64 (f.size : Int)) := (hN3.cell 2).trans rfl
                have hpl := putAt_length L f.at_ (be y f.size) (by omega)
                clear y0 y1 y2 z0 p3 cn
                go_wp2
                refine wpIn_wide (n := 4).1 ?_
                refine region_last (aF := ?kJ0) 14 [(87, .string (bs L)), (88, .pointer (some ⟨wr.heap.size, 1, none⟩)), (89, .int .i64 (f.at_ : Nat)), (90, .string (bs (L.take f.at_))), (91, .string (bs (be y f.size))), (92, .string (bs (L.take f.at_ ++ be y f.size))), (93, .string (bs L)), (94, .pointer (some ⟨wr.heap.size, 1, none⟩)), (95, .int .i64 (f.at_ : Nat)), (96, .pointer (some ⟨wr.heap.size, 2, none⟩)), (97, .int .i64 (f.size : Nat)), (98, .int .i64 ((f.at_ + f.size : Nat) : Int)), (99, .string (bs (L.drop (f.at_ + f.size)))), (100, .string (bs (putAt L f.at_ (be y f.size))))] (fun W => Below w'.heap.size w' W) ?kK0 hmx rfl (by kernel_rfl) (by kernel_rfl) (fun w w' h hb => h.trans (hb.mono h.size)) (Below.refl _ _).drew ?kL0 rfl ?kM0
                case kK0 =>
                  simp only [putAll, List.foldl_cons, List.foldl_nil, List.setIfInBounds_toArray, List.set_cons_zero, List.set_cons_succ]
                  exact rfl
                case kL0 =>
                  have hrf : ∀ w : World, Below w.heap.size w w := fun w => Below.refl _ w
                  have s1 : ∀ W, (Instr.slice 9 (.string (bs L)) none (some (.int .i64 (f.at_ : Int))) none).run Tryz.prog W = _ := str_to L f.at_ (by omega) (by omega)
                  have s2 : ∀ W, (Instr.slice 9 (.string (bs L)) (some (.int .i64 ((f.at_ : Int) + (f.size : Int)))) none none).run Tryz.prog W = _ := str_from L (f.at_ + f.size) (by omega) (by omega)
                  have s3 : L.take f.at_ ++ be y f.size ++ L.drop (f.at_ + f.size) = putAt L f.at_ (be y f.size) := by rw [putAt, hbl]
                  have s4 : IntKind.i64.wrap ((f.at_ : Int) + (f.size : Int)) = (f.at_ : Int) + (f.size : Int) := by rw [IntKind.wrap_i64]; omega
                  have l1 : (L.take f.at_).length = f.at_ := by rw [List.length_take]; omega
                  have l2 : (L.drop (f.at_ + f.size)).length = 48 - (f.at_ + f.size) := by rw [List.length_drop, hL]
                  refine ⟨?_, ?_, ?_, ?_, ?_, ?_, ?_, ?_, ?_, ?_, ?_, ?_, ?_, ?_, trivial⟩
                  all_goals refine ⟨by simp, fun W h => ⟨by simp [go_sem, Oper.about], ?_⟩⟩
                  all_goals
                    have u1 := (h.cell (p := ⟨wr.heap.size, 1, none⟩) hN3.lt).trans y1'
                    have u2 := (h.cell (p := ⟨wr.heap.size, 2, none⟩) hN3.lt).trans y2'
                    clear h
                  all_goals first
                    | (simp [OpTo, go_sem, hrf]; done)
                    | (simp [OpTo, go_sem, hrf, u1]; done)
                    | (simp [OpTo, go_sem, hrf, u2]; done)
                    | (simp [OpTo, go_sem, hrf, s4]; done)
                    | (simp only [OpTo, go_sem]; simp [s1 W, hrf]; done)
                    | (simp only [OpTo, go_sem]; simp [s2 W, hrf]; done)
                    | skip
                  all_goals simp [OpTo, go_sem, hrf, l1, l2, hbl, hL]
                  · rw [if_pos (by omega)]; exact ⟨rfl, hrf W⟩
                  · rw [if_neg (by omega)]; exact ⟨rfl, hrf W⟩
                  · rw [if_pos (by omega), show ((f.at_ : Int) + (f.size : Int)).toNat = f.at_ + f.size by omega, List.take_of_length_le (Nat.le_of_eq hL)]; exact ⟨rfl, hrf W⟩
                  · rw [if_neg (by omega)]; exact ⟨by rw [← s3, List.append_assoc], hrf W⟩
                case kM0 =>
                  intro w7 hb7
                  have hbA := hb9.trans (hb7.mono hb9.size)
                  gi_wp2
                  go_wp2
                  go_roundw
                  case rel => exact ⟨k + 1, _, by omega, by go_num, rfl, hpl.trans hL, Heq.out, hbA⟩
                  case measure => simp [intOf]; omega
            · obtain rfl : k = r.fields.length := by omega
              rw [writeF_end _ _ _ _ (Nat.le_refl _)] at heq
              have E8 := HE7.out.below hb
              go_wp2_with fail
              refine (cg _).out.mono ?_
              rintro e w9 ⟨rfl, hb9⟩
              have E9 := E8.below hb9
              have b9 := b8.trans (hb9.mono b8.size)
              have t0 : w9.cell? ⟨w.heap.size + 1, 0, none⟩ = some (.int .i64 0) := (E9.cell 0).trans rfl
              have t1 : w9.cell? ⟨w.heap.size + 1, 1, none⟩ = some (.int .i64 0) := (E9.cell 1).trans rfl
              have v0 := E9.free 0
              have v1 := E9.free 1
              go_wp2
              refine bodyPost_ret (v := .tuple #[.string (bs L), .agg #[.int .i64 0, .int .i64 (-1)]]) (by simp [results, Tryz.results72, go_sem, t0, t1]) rfl ?_
              exact ⟨by rw [HR.out, heq]; rfl, below_setc (below_setc b9 (by omega) _ _) (by omega) _ _⟩
      · clear hx
        go_wp2_with fail
        refine (c6 _).out.mono ?_; rintro e w3 ⟨rfl, hb3⟩
        have E5 := E4.below hb3
        have B5 := B4.below hb3
        have b5 := b4.trans (hb3.mono b4.size)
        have p2 : w3.cell? ⟨w.heap.size, 2, none⟩ = some (.int .i64 (fx.toNat : Int)) := (B5.cell 2).trans rfl
        clear p0 p1 hb3
        go_wp2_with fail
        rw [HX.out]
        have hmx : Tryz.prog.follows .mixedOrders = true := by kernel_rfl
        have hx8 : IntKind.u8.wrap (x.toNat : Int) = (x.toNat : Int) := by have := x.toNat_lt; rw [IntKind.wrap_u8]; omega
        have hf8 : IntKind.u8.wrap (fx.toNat : Int) = (fx.toNat : Int) := by have := fx.toNat_lt; rw [IntKind.wrap_u8]; omega
        have hw8 : IntKind.u8.wrap (wx.toNat : Int) = (wx.toNat : Int) := by have := wx.toNat_lt; rw [IntKind.wrap_u8]; omega
        have h3l := be_length data.toNat 3
        have h60 : x :: fx :: 0 :: 0 :: wx :: (be data.toNat 3 ++ Z0) = L0 := H48.out
        refine wpIn_wide (n := 4).1 ?_
        refine region_rel_last (aF := ?kA1) [55] (fun _ v W => ∃ g, v = .slice (some ⟨g, 0, none⟩) 5 5 ∧ Blk W g 5 (bcells [x, fx, 0, 0, wx])) [(48, some (.int .i64 (x.toNat : Int))), (49, some (.int .u8 (x.toNat : Int))), (50, some (.pointer (some ⟨w.heap.size, 2, none⟩))), (51, some (.int .i64 (fx.toNat : Int))), (52, some (.int .u8 (fx.toNat : Int))), (53, some (.int .i64 (wx.toNat : Int))), (54, some (.int .u8 (wx.toNat : Int))), (55, none), (56, some (.string (bs [x, fx, 0, 0, wx]))), (57, some (.string (bs (be data.toNat 3)))), (58, some (.string (bs ([x, fx, 0, 0, wx] ++ be data.toNat 3)))), (59, some (.string (bs Z0))), (60, some (.string (bs L0)))] (fun w' => Below w3.heap.size w3 w') 13 ?kB1 hmx rfl (by kernel_rfl) ?kE1 (fun _ _ _ _ ⟨g, h1, h2⟩ hb => ⟨g, h1, h2.below hb⟩) (fun w w' h hb => h.trans (hb.mono h.size)) (Below.refl _ _).drew ?kC1 rfl ?kD1
        case kB1 =>
          intro g
          simp only [putRel, putAll, List.map_cons, List.map_nil, Option.getD_some, Option.getD_none, List.foldl_cons, List.foldl_nil, List.setIfInBounds_toArray, List.set_cons_zero, List.set_cons_succ]
          exact rfl
        case kE1 => kernel_rfl
        case kC1 =>
          intro g
          refine ⟨?_, ?_, ?_, ?_, ?_, ?_, ?_, ?_, ?_, ?_, ?_, ?_, ?_, trivial⟩
          all_goals refine ⟨by simp, fun W h hg => ⟨?_, ?_⟩⟩
          all_goals first
            | (simp [go_sem, Oper.about]; done)
            | (simp [go_sem, Oper.about]; exact trivial)
            | (have z2 := (h.cell (p := ⟨w.heap.size, 2, none⟩) B5.lt).trans p2; have hrf : ∀ w : World, Below w.heap.size w w := fun w => Below.refl _ w; simp [OpRel, go_sem, z2, hx8, hf8, hw8, hrf, h3l, h40, h60]; done)
            | skip
          · have hrf : ∀ w : World, Below w.heap.size w w := fun w => Below.refl _ w
            simp [OpRel, go_sem]
            exact ⟨Blk.new _ _ _, (Below.refl _ _).alloc (Nat.le_refl _) _⟩
          · obtain ⟨gb, hge, hgb⟩ := hg 55 (by simp) (by simp [Op.operands])
            have hcv := conv_bcells (P := Tryz.prog) W 120 9 5 Tryz.underlying120 Tryz.underlying5 Tryz.underlying9 [x, fx, 0, 0, wx] 5 gb 5 (0, 0) hgb
            simp [OpRel, go_sem, hge]
            rw [show (convert 120 9 (.slice (some ⟨gb, 0, none⟩) 5 5)).run Tryz.prog W = _ from hcv]
            exact ⟨rfl, Below.refl _ _⟩
          · have hc := HZ.out W
            simp [OpRel, go_sem]
            refine callsIn_wide.2 (hc.mono ?_)
            rintro e w5 ⟨rfl, hb⟩
            exact ⟨_, rfl, rfl, hb⟩
        case kD1 =>
          intro g w4 hb4 hg
          have E6 := E5.below hb4
          have B6 := B5.below hb4
          have b6 := b5.trans (hb4.mono b5.size)
          have p0 : w4.cell? ⟨w.heap.size, 0, none⟩ = some (.int .i64 op) := (B6.cell 0).trans rfl
          generalize g 55 = g55
          clear hg hb4 hx8 hf8 hw8 h3l h60
          gi_wp2
          go_wp2_with fail
          refine (ck _).out.mono ?_
          rintro e w5 ⟨fv, rfl, hfs, _, hb7⟩
          have E7 := E6.below hb7
          have B7 := B6.below hb7
          have b7 := b6.trans (hb7.mono b6.size)
          obtain ⟨fb, fo, fc, rfl, hfb, hfc⟩ := fields_open hfs hn0
          obtain ⟨vb, vo, vc, hve, hvb, hvc⟩ := vals_open HSL.out hvl
          cases hve
          have HFC := hid hfc; have HVC := hid hvc
          have HB7 := hid B7; have HE7 := hid E7
          have p3 : w5.cell? ⟨w.heap.size, 3, none⟩ = some (.slice (some ⟨vb, vo, none⟩) vs.length sc) := (B7.cell 3).trans rfl
          have HP3 := hid p3
          have hlt7 := B7.lt
          clear hfc hvc hfs p0 p2 p3 B4 B5 B6 B7 E4 E5 E6 E7 hb7 ck
          go_wp2
          go_loopw [12, 71] (fun o i wr => RWrR r vs L0 w5 o i wr) (fun _ i _ => r.fields.length - (intOf i).toNat)
          case atStart => exact ⟨0, L0, by omega, rfl, rfl, hL0, rfl, Below.refl _ _⟩
          case round =>
            obtain ⟨k, L, hk, rfl, rfl, hL, heq, hb⟩ := hrel
            have hB := hb.size
            have b8 := b7.trans (hb.mono b7.size)
            by_cases hlt : k < r.fields.length
            · obtain ⟨f, hfk⟩ : ∃ f, r.fields[k]? = some f := ⟨r.fields[k], List.getElem?_eq_getElem hlt⟩
              obtain ⟨y, hyk⟩ : ∃ y, vs[k]? = some y := ⟨vs[k]'(by omega), List.getElem?_eq_getElem _⟩
              obtain ⟨_, _, _, _, hat, hs0, hs8⟩ := Hsz.out f (List.mem_of_getElem? hfk)
              have hx64 := Hv.out y (List.mem_of_getElem? hyk)
              have hfit := HF.out.fits k f y hfk hyk
              rw [writeF_drop r.fields vs L k f y hfk hyk] at heq
              have Heq := hid heq
              obtain ⟨y0, y1, y2⟩ := HFC.out k f hfk
              have y0 := (hb.cell (p := ⟨fb, fo + k * 3, none⟩) hfb).trans y0
              have y1 := (hb.cell (p := ⟨fb, fo + k * 3 + 1, none⟩) hfb).trans y1
              have y2 := (hb.cell (p := ⟨fb, fo + k * 3 + 2, none⟩) hfb).trans y2
              have z0 := ((hb.cell (p := ⟨vb, vo + k, none⟩) (Nat.lt_of_lt_of_le hvb b7.size)).trans (b7.cell (p := ⟨vb, vo + k, none⟩) hvb)).trans (HVC.out k y hyk)
              have p3 := (hb.cell (p := ⟨w.heap.size, 3, none⟩) hlt7).trans HP3.out
              have hbl := be_length y f.size
              have hbn := hb.alloc hB (.cells #[.string (bs f.name), .int .i64 (f.at_ : Int), .int .i64 (f.size : Int)] 220)
              have hN := Blk.new wr 220 #[.string (bs f.name), .int .i64 (f.at_ : Int), .int .i64 (f.size : Int)]
              have q9 : vb < wr.heap.size := Nat.lt_of_lt_of_le hvb (Nat.le_trans b7.size hB)
              have q8 : w.heap.size < wr.heap.size := Nat.lt_of_lt_of_le hlt7 hB
              have hklt : k < vs.length := by omega
              have hbe : putE y f.size = 0 ∧ putS y f.size = be y f.size := by
                have : putE y f.size = 0 := by unfold putE; rw [if_neg (by omega), if_neg (by simp; omega)]
                exact ⟨this, by unfold putS; rw [if_pos this]; rfl⟩
              have cn : ∀ w, Hid (Calls Tryz.prog 119 #[.int .u64 (y : Nat), .int .i64 (f.size : Nat)] w fun e w' => e = .returned (.tuple #[.string (bs (be y f.size)), .int .i64 0]) ∧ Below w.heap.size w w') := fun w => by
                have := number_any y (f.size : Int) w hx64
                rw [hbe.1, hbe.2] at this
                exact hid this
              clear heq hfk hyk hbe cb ck c6
              go_wp2
              generalize hw5 : wr.alloc (.cells #[.string (bs f.name), .int .i64 (f.at_ : Int), .int .i64 (f.size : Int)] 220) = w6 at *
              refine wpIn_wide (n := 4).1 ?_
              refine region_puts (aF := ?kF1) [(77, .pointer (some ⟨w.heap.size, 3, none⟩)), (78, .slice (some ⟨vb, vo, none⟩) vs.length sc), (79, .int .i64 (k : Nat)), (80, .pointer (some ⟨vb, vo + k, none⟩)), (81, .int .u64 (y : Nat)), (82, .pointer (some ⟨wr.heap.size, 2, none⟩)), (83, .int .i64 (f.size : Nat)), (84, .tuple #[.string (bs (be y f.size)), .int .i64 0]), (76, .tuple #[.string (bs (be y f.size)), .int .i64 0]), (85, .string (bs (be y f.size))), (86, .int .i64 0), (19, .string (bs (be y f.size))), (20, .int .i64 0)] (fun w' => Below w6.heap.size w6 w') ?kG1 hmx (by kernel_rfl) (by kernel_rfl) (fun w w' h hb => h.trans (hb.mono h.size)) (Below.refl _ _).drew ?kH1 ?kI1
              case kG1 =>
                simp only [putAll, List.foldl_cons, List.foldl_nil, List.setIfInBounds_toArray, List.set_cons_zero, List.set_cons_succ]
                exact rfl
              case kH1 =>
                have hl5 : wr.heap.size ≤ w6.heap.size := by rw [← hw5]; simp
                have e5 : ∀ p : Addr, p.block < wr.heap.size → w6.cell? p = wr.cell? p := fun p hp => by rw [← hw5]; exact World.cell?_alloc_lt _ _ _ hp
                have z3 : ∀ w', Below w6.heap.size w6 w' → w'.cell? ⟨w.heap.size, 3, none⟩ = some (.slice (some ⟨vb, vo, none⟩) vs.length sc) := fun w' h => (h.cell (p := ⟨w.heap.size, 3, none⟩) (Nat.lt_of_lt_of_le q8 hl5)).trans ((e5 _ q8).trans p3)
                have zx : ∀ w', Below w6.heap.size w6 w' → w'.cell? ⟨vb, vo + k, none⟩ = some (.int .u64 (y : Int)) := fun w' h => (h.cell (p := ⟨vb, vo + k, none⟩) (Nat.lt_of_lt_of_le q9 hl5)).trans ((e5 _ q9).trans z0)
                have zs : ∀ w', Below w6.heap.size w6 w' → w'.cell? ⟨wr.heap.size, 2, none⟩ = some (.int .i64 (f.size : Int)) := fun w' h => (h.cell (p := ⟨wr.heap.size, 2, none⟩) hN.lt).trans ((hN.cell 2).trans rfl)
                have hrf : ∀ w : World, Below w.heap.size w w := fun w => Below.refl _ w
                clear y0 y1 y2 z0 p3 Heq
                simp +contextual [EachOp, OpTo, go_sem, Oper.about, z3, zx, zs, hrf, hklt]
                exact fun w' h => ⟨trivial, callsIn_wide.2 (cn w').out⟩
              case kI1 =>
                intro w' hb'
                have hN3 := hN.below hb'
                have hb9 := hbn.trans (hb'.mono hbn.size)
                have y1' : w'.cell? ⟨wr.heap.size, 1, none⟩ = some (.int .i64 (f.at_ : Int)) := (hN3.cell 1).trans rfl
                have y2' : w'.cell? ⟨wr.heap.size, 2, none⟩ = some (.int .i64 (f.size : Int)) := (hN3.cell 2).trans rfl
                have hpl := putAt_length L f.at_ (be y f.size) (by omega)
                clear y0 y1 y2 z0 p3 cn
                go_wp2
                refine wpIn_wide (n := 4).1 ?_
                refine region_last (aF := ?kJ1) 14 [(87, .string (bs L)), (88, .pointer (some ⟨wr.heap.size, 1, none⟩)), (89, .int .i64 (f.at_ : Nat)), (90, .string (bs (L.take f.at_))), (91, .string (bs (be y f.size))), (92, .string (bs (L.take f.at_ ++ be y f.size))), (93, .string (bs L)), (94, .pointer (some ⟨wr.heap.size, 1, none⟩)), (95, .int .i64 (f.at_ : Nat)), (96, .pointer (some ⟨wr.heap.size, 2, none⟩)), (97, .int .i64 (f.size : Nat)), (98, .int .i64 ((f.at_ + f.size : Nat) : Int)), (99, .string (bs (L.drop (f.at_ + f.size)))), (100, .string (bs (putAt L f.at_ (be y f.size))))] (fun W => Below w'.heap.size w' W) ?kK1 hmx rfl (by kernel_rfl) (by kernel_rfl) (fun w w' h hb => h.trans (hb.mono h.size)) (Below.refl _ _).drew ?kL1 rfl ?kM1
                case kK1 =>
                  simp only [putAll, List.foldl_cons, List.foldl_nil, List.setIfInBounds_toArray, List.set_cons_zero, List.set_cons_succ]
                  exact rfl
                case kL1 =>
                  have hrf : ∀ w : World, Below w.heap.size w w := fun w => Below.refl _ w
                  have s1 : ∀ W, (Instr.slice 9 (.string (bs L)) none (some (.int .i64 (f.at_ : Int))) none).run Tryz.prog W = _ := str_to L f.at_ (by omega) (by omega)
                  have s2 : ∀ W, (Instr.slice 9 (.string (bs L)) (some (.int .i64 ((f.at_ : Int) + (f.size : Int)))) none none).run Tryz.prog W = _ := str_from L (f.at_ + f.size) (by omega) (by omega)
                  have s3 : L.take f.at_ ++ be y f.size ++ L.drop (f.at_ + f.size) = putAt L f.at_ (be y f.size) := by rw [putAt, hbl]
                  have s4 : IntKind.i64.wrap ((f.at_ : Int) + (f.size : Int)) = (f.at_ : Int) + (f.size : Int) := by rw [IntKind.wrap_i64]; omega
                  have l1 : (L.take f.at_).length = f.at_ := by rw [List.length_take]; omega
                  have l2 : (L.drop (f.at_ + f.size)).length = 48 - (f.at_ + f.size) := by rw [List.length_drop, hL]
                  refine ⟨?_, ?_, ?_, ?_, ?_, ?_, ?_, ?_, ?_, ?_, ?_, ?_, ?_, ?_, trivial⟩
                  all_goals refine ⟨by simp, fun W h => ⟨by simp [go_sem, Oper.about], ?_⟩⟩
                  all_goals
                    have u1 := (h.cell (p := ⟨wr.heap.size, 1, none⟩) hN3.lt).trans y1'
                    have u2 := (h.cell (p := ⟨wr.heap.size, 2, none⟩) hN3.lt).trans y2'
                    clear h
                  all_goals first
                    | (simp [OpTo, go_sem, hrf]; done)
                    | (simp [OpTo, go_sem, hrf, u1]; done)
                    | (simp [OpTo, go_sem, hrf, u2]; done)
                    | (simp [OpTo, go_sem, hrf, s4]; done)
                    | (simp only [OpTo, go_sem]; simp [s1 W, hrf]; done)
                    | (simp only [OpTo, go_sem]; simp [s2 W, hrf]; done)
                    | skip
                  all_goals simp [OpTo, go_sem, hrf, l1, l2, hbl, hL]
                  · rw [if_pos (by omega)]; exact ⟨rfl, hrf W⟩
                  · rw [if_neg (by omega)]; exact ⟨rfl, hrf W⟩
                  · rw [if_pos (by omega), show ((f.at_ : Int) + (f.size : Int)).toNat = f.at_ + f.size by omega, List.take_of_length_le (Nat.le_of_eq hL)]; exact ⟨rfl, hrf W⟩
                  · rw [if_neg (by omega)]; exact ⟨by rw [← s3, List.append_assoc], hrf W⟩
                case kM1 =>
                  intro w7 hb7
                  have hbA := hb9.trans (hb7.mono hb9.size)
                  gi_wp2
                  go_wp2
                  go_roundw
                  case rel => exact ⟨k + 1, _, by omega, by go_num, rfl, hpl.trans hL, Heq.out, hbA⟩
                  case measure => simp [intOf]; omega
            · obtain rfl : k = r.fields.length := by omega
              rw [writeF_end _ _ _ _ (Nat.le_refl _)] at heq
              have E8 := HE7.out.below hb
              go_wp2_with fail
              refine (cg _).out.mono ?_
              rintro e w9 ⟨rfl, hb9⟩
              have E9 := E8.below hb9
              have b9 := b8.trans (hb9.mono b8.size)
              have t0 : w9.cell? ⟨w.heap.size + 1, 0, none⟩ = some (.int .i64 0) := (E9.cell 0).trans rfl
              have t1 : w9.cell? ⟨w.heap.size + 1, 1, none⟩ = some (.int .i64 0) := (E9.cell 1).trans rfl
              have v0 := E9.free 0
              have v1 := E9.free 1
              go_wp2
              refine bodyPost_ret (v := .tuple #[.string (bs L), .agg #[.int .i64 0, .int .i64 (-1)]]) (by simp [results, Tryz.results72, go_sem, t0, t1]) rfl ?_
              exact ⟨by rw [HR.out, heq]; rfl, below_setc (below_setc b9 (by omega) _ _) (by omega) _ _⟩
  · have HR := hid (show writeH op now flags vs words data = ([], rightH op now flags vs) by simp [writeH, hz])
    generalize rightH op now flags vs = R at *
    obtain ⟨y1, y2⟩ := R
    have hzd : decide (y1 = 0) = false := by simpa using hz
    go_enter Tryz.func72, Tryz.ntmps72
    unfold headV
    go_wp2_with fail
    refine (c1 _ b1).out.mono ?_
    rintro e w1 ⟨rfl, hb⟩
    have E2 := E1.below hb
    have b2 := b1.trans (hb.mono b1.size)
    have b3 := b2.alloc b2.size (.cells #[.int .i64 (y1 : Nat), .int .i64 y2] 24)
    have E3 := E2.below ((Below.refl _ _).alloc (Nat.le_refl _) (.cells #[.int .i64 (y1 : Nat), .int .i64 y2] 24))
    have F3 := Blk.new w1 24 #[.int .i64 (y1 : Nat), .int .i64 y2]
    unfold faultV
    go_wp2_with fail
    refine (ci y1 y2 _).out.mono ?_
    rintro e w2 ⟨rfl, hb2⟩
    have E4 := E3.below hb2
    have F4 := F3.below hb2
    have b4 := b3.trans (hb2.mono b3.size)
    have t0 : w2.cell? ⟨w.heap.size + 1, 0, none⟩ = some (.int .i64 0) := (E4.cell 0).trans rfl
    have t1 : w2.cell? ⟨w.heap.size + 1, 1, none⟩ = some (.int .i64 0) := (E4.cell 1).trans rfl
    have v0 := E4.free 0
    have v1 := E4.free 1
    have f0 : w2.cell? ⟨w1.heap.size, 0, none⟩ = some (.int .i64 (y1 : Nat)) := (F4.cell 0).trans rfl
    have f1 : w2.cell? ⟨w1.heap.size, 1, none⟩ = some (.int .i64 y2) := (F4.cell 1).trans rfl
    rw [hzd]
    go_wp2_with fail
    have hmx : Tryz.prog.follows .mixedOrders = true := by kernel_rfl
    refine wpIn_wide (n := 4).1 ?_
    refine region_last (aF := ?mA) 2 [(26, .agg #[.int .i64 (y1 : Nat), .int .i64 y2]), (6, .string ⟨#[]⟩)] (fun w' => Below w2.heap.size w2 w') ?mB hmx rfl (by kernel_rfl) (by kernel_rfl) (fun w w' h hb => h.trans (hb.mono h.size)) (Below.refl _ _).drew ?mC rfl ?mD
    case mB =>
      simp only [putAll, List.foldl_cons, List.foldl_nil, List.setIfInBounds_toArray, List.set_cons_zero, List.set_cons_succ]
      exact rfl
    case mC =>
      have z0 : ∀ w', Below w2.heap.size w2 w' → w'.cell? ⟨w1.heap.size, 0, none⟩ = some (.int .i64 (y1 : Nat)) := fun w' h => (h.cell (p := ⟨w1.heap.size, 0, none⟩) F4.lt).trans f0
      have z1 : ∀ w', Below w2.heap.size w2 w' → w'.cell? ⟨w1.heap.size, 1, none⟩ = some (.int .i64 y2) := fun w' h => (h.cell (p := ⟨w1.heap.size, 1, none⟩) F4.lt).trans f1
      have hrf : ∀ w : World, Below w.heap.size w w := fun w => Below.refl _ w
      refine ⟨⟨by simp, fun w' h => ⟨?_, ?_⟩⟩, ⟨by simp, fun w' h => ⟨?_, ?_⟩⟩, trivial⟩
      · simp [go_sem, Oper.about]
      · have q0 := z0 w' h
        have q1 := z1 w' h
        clear z0 z1
        unfold OpTo
        simp [go_sem, q0, q1, hrf]
      · simp [go_sem, Oper.about]
      · simp [OpTo, go_sem, hrf]
    case mD =>
      intro w3 hb3
      have E5 := E4.below hb3
      have b5 := b4.trans (hb3.mono b4.size)
      have t0 : w3.cell? ⟨w.heap.size + 1, 0, none⟩ = some (.int .i64 0) := (E5.cell 0).trans rfl
      have t1 : w3.cell? ⟨w.heap.size + 1, 1, none⟩ = some (.int .i64 0) := (E5.cell 1).trans rfl
      have v0 := E5.free 0
      have v1 := E5.free 1
      gi_wp2
      go_wp2
      refine bodyPost_ret (v := .tuple #[.string (bs []), .agg #[.int .i64 (y1 : Nat), .int .i64 y2]]) (by simp [results, Tryz.results72, go_sem, t0, t1]; rfl) rfl ?_
      exact ⟨by rw [HR.out]; rfl, below_setc (below_setc b5 (by omega) _ _) (by omega) _ _⟩
end
end Go.Proofs.YtejbigoacknfoaaGreatDoor
