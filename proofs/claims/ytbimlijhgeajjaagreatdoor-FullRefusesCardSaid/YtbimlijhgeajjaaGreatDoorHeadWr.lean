/- A head in 48 bytes: by the program. -/
import Derived.Test.YtbimlijhgeajjaaGreatDoorHeadRdPure
import Derived.Test.YtbimlijhgeajjaaGreatDoorHeadRight
import Derived.Test.YtbimlijhgeajjaaGreatDoorMono
import Derived.Lib.BufferWrite
set_option linter.unusedSectionVars false
set_option linter.unusedSimpArgs false
set_option linter.unusedVariables false
namespace Go.Proofs.YtbimlijhgeajjaaGreatDoor
open Go Go.RowKit
set_option linter.unusedVariables false
set_option linter.unusedSimpArgs false
set_option linter.unusedSectionVars false
set_option maxRecDepth 100000
theorem slice_bytes {P : Program} (t e : TypeId) (ht : P.underlying t = some (.slice e)) (hsz : ∀ w, (sizeOf e).run P w = .ok 1 w) (g n cap k : Nat) (hk : k ≤ n) (hkc : k < cap) (w : World) :
    (Instr.slice t (.slice (some ⟨g, 0, none⟩) n cap) (some (.int .i64 (k : Int))) none none).run P w = .ok (.slice (some ⟨g, k, none⟩) (n - k) (cap - k)) w := by
  have he : P.elem t = e := by simp [Program.elem, ht]
  rw [run_slice_l w t _ n cap (by rw [he]; exact ht) .i64 k (by omega) (by omega), he, hsz]
  simp only [Result.andThen, sliced]
  rw [if_neg (by omega)]
  by_cases h0 : k = 0 <;> simp [Addr.add, h0]
theorem errIs_zeroH {w : World} {v : Value} {pl : Int} (h : ErrIs w v 0 pl) : v = .nilIface := by
  generalize hk : 0 = k at h
  cases h <;> first | rfl | omega
theorem head_cells (x : UInt8) (a0 flags words data : Int) (hx : (x.toNat : Int) = a0) (f0 : 0 ≤ flags) (f1 : flags ≤ 255) (q0 : 0 ≤ words) (q1 : words ≤ 255) (q2 : 0 ≤ data) (q3 : data ≤ 16777215) :
    (((((((bcells [0, 0, 0, 0, 0, 0, 0, 0, 0, 0, 0, 0, 0, 0, 0, 0, 0, 0, 0, 0, 0, 0, 0, 0, 0, 0, 0, 0, 0, 0, 0, 0, 0, 0, 0, 0, 0, 0, 0, 0, 0, 0, 0, 0, 0, 0, 0, 0]).setIfInBounds 0 (.int .u8 a0)).setIfInBounds 1 (.int .u8 flags)).setIfInBounds 4 (.int .u8 words)).setIfInBounds 5 (.int .u8 (data / 65536))).setIfInBounds 6 (.int .u8 (data / 256 % 256))).setIfInBounds 7 (.int .u8 (data % 256))) =
      bcells (([x, UInt8.ofNat flags.toNat, 0, 0, UInt8.ofNat words.toNat] ++ be data.toNat 3) ++ List.replicate 40 0) := by
  obtain ⟨d, rfl⟩ := Int.eq_ofNat_of_zero_le q2
  have e5 : ((d : Int) / 65536) = ((UInt8.ofNat (d / 256 ^ 2 % 256)).toNat : Int) := by simp; omega
  have e6 : ((d : Int) / 256 % 256) = ((UInt8.ofNat (d / 256 ^ 1 % 256)).toNat : Int) := by simp
  have e7 : ((d : Int) % 256) = ((UInt8.ofNat (d / 256 ^ 0 % 256)).toNat : Int) := by simp
  have ef := u8_nat flags f0 f1
  have ew := u8_nat words q0 q1
  generalize UInt8.ofNat flags.toNat = F at *
  generalize UInt8.ofNat words.toNat = W at *
  rw [← hx, ← ef, ← ew, e5, e6, e7]
  simp only [bcells_set, Int.toNat_natCast]
  rfl
theorem grown_cell {a b : World} {g : Nat} (h : a.grownBy b (some g)) {p : Addr} (hp : p.block < a.heap.size) (hn : p.block ≠ g) : b.cell? p = a.cell? p := by
  unfold World.cell?
  rw [h.block _ hp (by intro e; cases e; exact hn rfl)]
theorem only_setRow {a w : World} {g : Nat} (h : a.grownBy w (some g)) (cs : Array Value) : a.grownBy (w.setRow g cs) (some g) :=
  only_trans h ⟨rfl, rfl, rfl, by simp, fun k hk hne => setRow_other w g k cs (by intro e; subst e; exact hne rfl)⟩
theorem copy_at (g k : Nat) (L l : List UInt8) (n : Nat) (w : World) (hL : Blk w g 5 (bcells L)) (hle : l.length ≤ n) (hfit : k + l.length ≤ L.length) :
    (Builtin.copy_ #[197, 9] 3 #[.slice (some ⟨g, k, none⟩) n n, .string (bs l)]).run Tryz.prog w = .ok (.int .i64 (l.length : Int)) (w.setRow g (bcells (putAt L k l))) := by
  have hsz : (bs l).size = l.length := by simp [bs, ByteArray.size]
  have := Lib.run_copy_row_string (P := Tryz.prog) w 197 9 3 5 g k n n (bs l) (bcells L) 5 Tryz.underlying197 (by kernel_rfl) hL (by omega) (by rw [hsz, bcells_size]; exact hfit)
  rw [this, hsz]
  have e : (bcells (putAt L k l)) = ((bcells L).toList.take k ++ Lib.byteCells (bs l).data.toList ++ (bcells L).toList.drop (k + l.length)).toArray := by
    simp [bcells, putAt, Lib.byteCells, List.map_take, List.map_drop, bs]
  rw [e]
  rfl
def WritePost (op : Int) (now : Bool) (flags : Int) (vs : List Nat) (words data : Int) (w : World) (e : Ending) (w' : World) : Prop :=
  ∃ ev, e = .returned (.tuple #[.string (bs (writeH op now flags vs words data).1), ev]) ∧ ErrIs w' ev (writeH op now flags vs words data).2.1 (writeH op now flags vs words data).2.2 ∧ Below w.heap.size w w'
def RWr (r : HR) (vs : List Nat) (L0 : List UInt8) (g : Nat) (w4 : World) (i : Value) (wr : World) : Prop :=
  ∃ (k : Nat) (L : List UInt8), k ≤ r.fields.length ∧ i = .int .i64 (k : Nat) ∧ L.length = 48 ∧ writeF r.fields vs L0 = writeF (r.fields.drop k) (vs.drop k) L ∧ Blk wr g 5 (bcells L) ∧ w4.grownBy wr (some g)
section
variable (op : Int) (now : Bool) (flags : Int) (v : Value) (vs : List Nat) (words data : Int) (w : World) (h0 : -9223372036854775808 ≤ op) (h1 : op ≤ 9223372036854775807) (g0 : -9223372036854775808 ≤ flags) (g1 : flags ≤ 9223372036854775807)
  (hn : vs.length ≤ 9223372036854775807) (hv : ∀ x ∈ vs, x ≤ 18446744073709551615) (hsl : Sl w v 1 vs.length (u64Cells vs)) (hT : AS w) (hP : PT w)
include h0 h1 g0 g1 hn hv hsl hT hP
set_option maxHeartbeats 4000000 in
theorem write_any : Calls Tryz.prog 108 #[headV op now flags v, .int .i64 words, .int .i64 data] w fun e w' => WritePost op now flags vs words data w e w' := by
  have c1 := fun w1 (hb : Below w.heap.size w w1) => hid (right_any op now flags v vs w1 h0 h1 g0 g1 hn hv (hsl.below (Nat.le_refl _) hb) (hT.below hb (Nat.le_refl _)) (hP.below hb (Nat.le_refl _)))
  have c2 := fun w1 (hb : Below w.heap.size w w1) => hid (hfields_any op h0 h1 w1 (hT.below hb (Nat.le_refl _)) (hP.below hb (Nat.le_refl _)))
  unfold RightPost at c1
  unfold FieldsPost at c2
  unfold WritePost
  have HSL := hid hsl
  obtain ⟨sa, sc, rfl, hsl1, hsl2⟩ := hsl
  clear hT hP hsl2
  have b1 := (Below.refl w.heap.size w).alloc (Nat.le_refl _) (.cells #[.int .i64 op, .bool now, .int .i64 flags, .slice sa vs.length sc] 51)
  have B1 := Blk.new w 51 #[.int .i64 op, .bool now, .int .i64 flags, .slice sa vs.length sc]
  by_cases hz : (rightH op now flags vs).1 = 0
  · obtain ⟨r, F⟩ := right_fit op now flags vs hz
    have hop := fit_op F
    have hmem := findH_mem F.find
    have hn0 := fields_pos r hmem
    have hvl : 0 < vs.length := by have := F.len; omega
    have hsz := (head_fine r hmem).2.2.2.2.2.2.2
    have hnf := (head_fine r hmem).2.2.2.2.2.2.1
    rw [F.all] at c1
    rw [F.find] at c2
    simp only [HErr, hE, errV, hFields] at c2
    have HF := hid F
    have hlow := F.low; have hfl0 := F.flags0; have hfl1 := F.flags1; have hlen := F.len
    have Hsz := hid hsz; have Hv := hid hv
    clear hsz hv hz hmem F hsl1
    have hmk : ∀ w, (Instr.makeSlice 197 (.int .i64 48) (.int .i64 48)).run Tryz.prog w = .ok (.slice (some ⟨w.heap.size, 0, none⟩) 48 48) (w.alloc (.cells (bcells (List.replicate 48 0)) 5)) := make_bytes (P := Tryz.prog) 197 5 Tryz.underlying197 infoB 48 (by omega)
    go_enter Tryz.func108, Tryz.ntmps108
    unfold headV
    go_wp2_with fail
    refine (c1 _ b1).out.mono ?_
    rintro e w1 ⟨ev, rfl, her, hb1⟩
    obtain rfl := errIs_zeroH her
    have B1 := B1.below hb1
    have b1 := b1.trans (hb1.mono b1.size)
    clear her hb1
    by_cases hw : words < 0 ∨ 255 < words ∨ data < 0 ∨ 16777215 < data
    · have HR := hid (show writeH op now flags vs words data = ([], 4, -1) by simp only [writeH, HF.out.all]; rw [if_neg (by simp), if_pos hw])
      have hw : words < 0 ∨ (¬ words < 0 ∧ 255 < words) ∨ (¬ words < 0 ∧ ¬ 255 < words ∧ data < 0) ∨ (¬ words < 0 ∧ ¬ 255 < words ∧ ¬ data < 0 ∧ 16777216 ≤ data) := by omega
      rcases hw with a1 | ⟨a1, a2⟩ | ⟨a1, a2, a3⟩ | ⟨a1, a2, a3, a4⟩
      all_goals
        go_wp2
        go_ret2
        exact ⟨_, by rw [HR.out]; rfl, by rw [HR.out]; exact .bare 4 (by omega), b1⟩
    · have hq : 0 ≤ words ∧ words ≤ 255 ∧ 0 ≤ data ∧ data ≤ 16777215 := by omega
      obtain ⟨q0, q1, q2, q3⟩ := hq
      have HR := hid (show writeH op now flags vs words data = (writeF r.fields vs (head48 op now flags words data), 0, -1) by simp only [writeH, HF.out.all]; rw [if_neg (by simp), if_neg hw, HF.out.find]; rfl)
      have a1 : ¬ words < 0 := by omega
      have a2 : ¬ 255 < words := by omega
      have a3 : ¬ data < 0 := by omega
      have a4 : ¬ 16777216 ≤ data := by omega
      clear hw
      have p0 : w1.cell? ⟨w.heap.size, 0, none⟩ = some (.int .i64 op) := (B1.cell 0).trans rfl
      have p1 : w1.cell? ⟨w.heap.size, 1, none⟩ = some (.bool now) := (B1.cell 1).trans rfl
      have p2 : w1.cell? ⟨w.heap.size, 2, none⟩ = some (.int .i64 flags) := (B1.cell 2).trans rfl
      have hlt := B1.lt
      have hL0 := head48_length op now flags words data
      have hC : ∀ a0 : Int, ((UInt8.ofNat (op.toNat + if now then 64 else 0)).toNat : Int) = a0 → _ := fun a0 h => head_cells (UInt8.ofNat (op.toNat + if now then 64 else 0)) a0 flags words data h hfl0 hfl1 q0 q1 q2 q3
      change ∀ a0 : Int, ((UInt8.ofNat (op.toNat + if now then 64 else 0)).toNat : Int) = a0 → _ = bcells (head48 op now flags words data) at hC
      have hC : (now = false → _) ∧ (now = true → _) := ⟨fun e => hC op (by subst e; simp; omega), fun e => hC (op + 64) (by subst e; have := hlow rfl; simp; omega)⟩
      have HC := hid hC
      generalize head48 op now flags words data = L0 at *
      have b3 := b1.alloc b1.size (.cells (bcells L0) 5)
      have hs1 := b1.size
      have B3 := Blk.new w1 5 (bcells L0)
      have B1a := B1.below ((Below.refl _ _).alloc (Nat.le_refl _) (.cells (bcells L0) 5))
      clear hC
      obtain ⟨vb, vo, vc, hve, hvb, hvc⟩ := vals_open HSL.out hvl
      cases hve
      have HVC := hid hvc
      clear hvc
      cases now
      case' false =>
        go_wp2_with fail
        rw [HC.out.1 trivial]
      case' true =>
        have hor := or64 op hop.1 (hlow rfl)
        go_wp2_with fail
        rw [HC.out.2 trivial]
      · refine (c2 _ b3).out.mono ?_
        rintro e w2 ⟨fv, rfl, hfs, _, hb2⟩
        have B3 := B3.below hb2
        have B1b := B1a.below hb2
        have b4 := b3.trans (hb2.mono b3.size)
        have hs2 := hb2.size
        obtain ⟨fb, fo, fc, rfl, hfb, hfc⟩ := fields_open hfs hn0
        have hfg : fb ≠ w1.heap.size := by
          intro e
          obtain ⟨f, hf⟩ : ∃ f, r.fields[0]? = some f := ⟨r.fields[0], List.getElem?_eq_getElem hn0⟩
          have h1 := (hfc 0 f hf).1
          rw [e, B3.cell] at h1
          simp [bcells] at h1
        have HFC := hid hfc
        have HB3 := hid B3
        have hlt2 : w.heap.size < w2.heap.size := B1b.lt
        have hg2 : w1.heap.size < w2.heap.size := B3.lt
        have q3' : w2.cell? ⟨w.heap.size, 3, none⟩ = some (.slice (some ⟨vb, vo, none⟩) vs.length sc) := (B1b.cell 3).trans rfl
        have HP3 := hid q3'
        clear hfc hfs B3 B1a B1b hb2 q3' p0 p1 p2
        go_wp2
        go_loopw [80] (fun i wr => RWr r vs L0 w1.heap.size w2 i wr) (fun i _ => r.fields.length - (intOf i).toNat)
        case atStart => exact ⟨0, L0, by omega, rfl, hL0, rfl, HB3.out, only_refl _ _⟩
        case round =>
          obtain ⟨k, L, hk, rfl, hL, heq, hB, hO⟩ := hrel
          have hsz := hO.size
          have hbw := below_only b4 hO hs1 b4.size
          by_cases hlt : k < r.fields.length
          · obtain ⟨f, hfk⟩ : ∃ f, r.fields[k]? = some f := ⟨r.fields[k], List.getElem?_eq_getElem hlt⟩
            obtain ⟨x, hxk⟩ : ∃ x, vs[k]? = some x := ⟨vs[k]'(by omega), List.getElem?_eq_getElem _⟩
            obtain ⟨_, _, _, _, hat, hs0, hs8⟩ := Hsz.out f (List.mem_of_getElem? hfk)
            have hx64 := Hv.out x (List.mem_of_getElem? hxk)
            have hfit := HF.out.fits k f x hfk hxk
            rw [writeF_drop r.fields vs L k f x hfk hxk] at heq
            have Heq := hid heq
            obtain ⟨y0, y1, y2⟩ := HFC.out k f hfk
            have y0 := (grown_cell hO (p := ⟨fb, fo + k * 3, none⟩) hfb hfg).trans y0
            have y1 := (grown_cell hO (p := ⟨fb, fo + k * 3 + 1, none⟩) hfb hfg).trans y1
            have y2 := (grown_cell hO (p := ⟨fb, fo + k * 3 + 2, none⟩) hfb hfg).trans y2
            have z0 := ((grown_cell hO (p := ⟨vb, vo + k, none⟩) (Nat.lt_of_lt_of_le hvb b4.size) (by show vb ≠ _; omega)).trans (b4.cell (p := ⟨vb, vo + k, none⟩) hvb)).trans (HVC.out k x hxk)
            have p3 := (grown_cell hO (p := ⟨w.heap.size, 3, none⟩) hlt2 (by show w.heap.size ≠ _; omega)).trans HP3.out
            have hbl := be_length x f.size
            have hO2 := only_alloc hO (.cells #[.string (bs f.name), .int .i64 (f.at_ : Int), .int .i64 (f.size : Int)] 175)
            have hB2 := hB.below ((Below.refl _ _).alloc (Nat.le_refl _) (.cells #[.string (bs f.name), .int .i64 (f.at_ : Int), .int .i64 (f.size : Int)] 175))
            have hN := Blk.new wr 175 #[.string (bs f.name), .int .i64 (f.at_ : Int), .int .i64 (f.size : Int)]
            have q9 : vb < wr.heap.size := by omega
            have q8 : w.heap.size < wr.heap.size := by omega
            have hmx : Tryz.prog.follows .mixedOrders = true := by kernel_rfl
            have hklt : k < vs.length := by omega
            clear heq hfk hxk
            go_wp2
            generalize hw5 : wr.alloc (.cells #[.string (bs f.name), .int .i64 (f.at_ : Int), .int .i64 (f.size : Int)] 175) = w5 at *
            refine wpIn_wide (n := 4).1 ?_
            refine region_puts (aF := ?kF0) [(86, .pointer (some ⟨w.heap.size, 3, none⟩)), (87, .slice (some ⟨vb, vo, none⟩) vs.length sc), (88, .int .i64 (k : Nat)), (89, .pointer (some ⟨vb, vo + k, none⟩)), (90, .int .u64 (x : Nat)), (91, .pointer (some ⟨wr.heap.size, 2, none⟩)), (92, .int .i64 (f.size : Nat)), (93, .tuple #[.string (bs (be x f.size)), .nilIface]), (85, .tuple #[.string (bs (be x f.size)), .nilIface]), (94, .string (bs (be x f.size))), (95, .nilIface), (14, .string (bs (be x f.size))), (15, .nilIface)] (fun w' => Below w5.heap.size w5 w') ?kaf0 hmx (by kernel_rfl) (by kernel_rfl) (fun w w' h hb => h.trans (hb.mono h.size)) (Below.refl _ _).drew ?keach0 ?kgo0
            case kaf0 =>
              simp only [putAll, List.foldl_cons, List.foldl_nil, List.setIfInBounds_toArray, List.set_cons_zero, List.set_cons_succ]
              exact rfl
            case keach0 =>
              have hl5 : wr.heap.size ≤ w5.heap.size := by rw [← hw5]; simp
              have e5 : ∀ p : Addr, p.block < wr.heap.size → w5.cell? p = wr.cell? p := fun p hp => by rw [← hw5]; exact World.cell?_alloc_lt _ _ _ hp
              have z3 : ∀ w', Below w5.heap.size w5 w' → w'.cell? ⟨w.heap.size, 3, none⟩ = some (.slice (some ⟨vb, vo, none⟩) vs.length sc) := fun w' h => (h.cell (p := ⟨w.heap.size, 3, none⟩) (Nat.lt_of_lt_of_le q8 hl5)).trans ((e5 _ q8).trans p3)
              have zx : ∀ w', Below w5.heap.size w5 w' → w'.cell? ⟨vb, vo + k, none⟩ = some (.int .u64 (x : Int)) := fun w' h => (h.cell (p := ⟨vb, vo + k, none⟩) (Nat.lt_of_lt_of_le q9 hl5)).trans ((e5 _ q9).trans z0)
              have zs : ∀ w', Below w5.heap.size w5 w' → w'.cell? ⟨wr.heap.size, 2, none⟩ = some (.int .i64 (f.size : Int)) := fun w' h => (h.cell (p := ⟨wr.heap.size, 2, none⟩) hN.lt).trans ((hN.cell 2).trans rfl)
              have hrf : ∀ w : World, Below w.heap.size w w := fun w => Below.refl _ w
              have cn := fun w => hid (put_ok x f.size w hx64 hs8 hfit)
              clear c1 c2 y0 y1 y2 z0 p3 hmk Heq
              simp +contextual [EachOp, OpTo, go_sem, Oper.about, z3, zx, zs, hrf, hklt]
              exact fun w' h => ⟨trivial, callsIn_wide.2 (cn w').out⟩
            case kgo0 =>
              intro w' hb'
              have hO3 := only_below hO2 hb'
              have hB3 := hB2.below hb'
              have hN3 := hN.below hb'
              have y1' : w'.cell? ⟨wr.heap.size, 1, none⟩ = some (.int .i64 (f.at_ : Int)) := (hN3.cell 1).trans rfl
              have hsl := slice_bytes (P := Tryz.prog) 197 5 Tryz.underlying197 (by intro w; kernel_rfl) w1.heap.size 48 48 f.at_ (by omega) (by omega) w'
              have hcp := copy_at w1.heap.size f.at_ L (be x f.size) (48 - f.at_) w' hB3 (by omega) (by omega)
              have hst := setRow_heap w' w1.heap.size (bcells L) (bcells (putAt L f.at_ (be x f.size))) 5 (0, 0) hB3
              have hpl := putAt_length L f.at_ (be x f.size) (by omega)
              clear c1 c2 y0 y1 y2 z0 p3 hmk
              go_wp2
              go_roundw
              case rel => exact ⟨k + 1, _, by omega, by go_num, hpl.trans hL, Heq.out, hst, only_setRow hO3 _⟩
              case measure => simp [intOf]; omega
          · obtain rfl : k = r.fields.length := by omega
            rw [writeF_end _ _ _ _ (Nat.le_refl _)] at heq
            have hcv := conv_bcells (P := Tryz.prog) wr 197 9 5 Tryz.underlying197 Tryz.underlying5 Tryz.underlying9 L 48 w1.heap.size 5 (0, 0) hB
            rw [hL] at hcv
            go_wp2
            go_ret2
            exact ⟨_, by rw [HR.out, heq]; rfl, by rw [HR.out]; exact .nil, hbw⟩
      · refine (c2 _ b3).out.mono ?_
        rintro e w2 ⟨fv, rfl, hfs, _, hb2⟩
        have B3 := B3.below hb2
        have B1b := B1a.below hb2
        have b4 := b3.trans (hb2.mono b3.size)
        have hs2 := hb2.size
        obtain ⟨fb, fo, fc, rfl, hfb, hfc⟩ := fields_open hfs hn0
        have hfg : fb ≠ w1.heap.size := by
          intro e
          obtain ⟨f, hf⟩ : ∃ f, r.fields[0]? = some f := ⟨r.fields[0], List.getElem?_eq_getElem hn0⟩
          have h1 := (hfc 0 f hf).1
          rw [e, B3.cell] at h1
          simp [bcells] at h1
        have HFC := hid hfc
        have HB3 := hid B3
        have hlt2 : w.heap.size < w2.heap.size := B1b.lt
        have hg2 : w1.heap.size < w2.heap.size := B3.lt
        have q3' : w2.cell? ⟨w.heap.size, 3, none⟩ = some (.slice (some ⟨vb, vo, none⟩) vs.length sc) := (B1b.cell 3).trans rfl
        have HP3 := hid q3'
        clear hfc hfs B3 B1a B1b hb2 q3' p0 p1 p2
        go_wp2
        go_loopw [80] (fun i wr => RWr r vs L0 w1.heap.size w2 i wr) (fun i _ => r.fields.length - (intOf i).toNat)
        case atStart => exact ⟨0, L0, by omega, rfl, hL0, rfl, HB3.out, only_refl _ _⟩
        case round =>
          obtain ⟨k, L, hk, rfl, hL, heq, hB, hO⟩ := hrel
          have hsz := hO.size
          have hbw := below_only b4 hO hs1 b4.size
          by_cases hlt : k < r.fields.length
          · obtain ⟨f, hfk⟩ : ∃ f, r.fields[k]? = some f := ⟨r.fields[k], List.getElem?_eq_getElem hlt⟩
            obtain ⟨x, hxk⟩ : ∃ x, vs[k]? = some x := ⟨vs[k]'(by omega), List.getElem?_eq_getElem _⟩
            obtain ⟨_, _, _, _, hat, hs0, hs8⟩ := Hsz.out f (List.mem_of_getElem? hfk)
            have hx64 := Hv.out x (List.mem_of_getElem? hxk)
            have hfit := HF.out.fits k f x hfk hxk
            rw [writeF_drop r.fields vs L k f x hfk hxk] at heq
            have Heq := hid heq
            obtain ⟨y0, y1, y2⟩ := HFC.out k f hfk
            have y0 := (grown_cell hO (p := ⟨fb, fo + k * 3, none⟩) hfb hfg).trans y0
            have y1 := (grown_cell hO (p := ⟨fb, fo + k * 3 + 1, none⟩) hfb hfg).trans y1
            have y2 := (grown_cell hO (p := ⟨fb, fo + k * 3 + 2, none⟩) hfb hfg).trans y2
            have z0 := ((grown_cell hO (p := ⟨vb, vo + k, none⟩) (Nat.lt_of_lt_of_le hvb b4.size) (by show vb ≠ _; omega)).trans (b4.cell (p := ⟨vb, vo + k, none⟩) hvb)).trans (HVC.out k x hxk)
            have p3 := (grown_cell hO (p := ⟨w.heap.size, 3, none⟩) hlt2 (by show w.heap.size ≠ _; omega)).trans HP3.out
            have hbl := be_length x f.size
            have hO2 := only_alloc hO (.cells #[.string (bs f.name), .int .i64 (f.at_ : Int), .int .i64 (f.size : Int)] 175)
            have hB2 := hB.below ((Below.refl _ _).alloc (Nat.le_refl _) (.cells #[.string (bs f.name), .int .i64 (f.at_ : Int), .int .i64 (f.size : Int)] 175))
            have hN := Blk.new wr 175 #[.string (bs f.name), .int .i64 (f.at_ : Int), .int .i64 (f.size : Int)]
            have q9 : vb < wr.heap.size := by omega
            have q8 : w.heap.size < wr.heap.size := by omega
            have hmx : Tryz.prog.follows .mixedOrders = true := by kernel_rfl
            have hklt : k < vs.length := by omega
            clear heq hfk hxk
            go_wp2
            generalize hw5 : wr.alloc (.cells #[.string (bs f.name), .int .i64 (f.at_ : Int), .int .i64 (f.size : Int)] 175) = w5 at *
            refine wpIn_wide (n := 4).1 ?_
            refine region_puts (aF := ?kF1) [(86, .pointer (some ⟨w.heap.size, 3, none⟩)), (87, .slice (some ⟨vb, vo, none⟩) vs.length sc), (88, .int .i64 (k : Nat)), (89, .pointer (some ⟨vb, vo + k, none⟩)), (90, .int .u64 (x : Nat)), (91, .pointer (some ⟨wr.heap.size, 2, none⟩)), (92, .int .i64 (f.size : Nat)), (93, .tuple #[.string (bs (be x f.size)), .nilIface]), (85, .tuple #[.string (bs (be x f.size)), .nilIface]), (94, .string (bs (be x f.size))), (95, .nilIface), (14, .string (bs (be x f.size))), (15, .nilIface)] (fun w' => Below w5.heap.size w5 w') ?kaf1 hmx (by kernel_rfl) (by kernel_rfl) (fun w w' h hb => h.trans (hb.mono h.size)) (Below.refl _ _).drew ?keach1 ?kgo1
            case kaf1 =>
              simp only [putAll, List.foldl_cons, List.foldl_nil, List.setIfInBounds_toArray, List.set_cons_zero, List.set_cons_succ]
              exact rfl
            case keach1 =>
              have hl5 : wr.heap.size ≤ w5.heap.size := by rw [← hw5]; simp
              have e5 : ∀ p : Addr, p.block < wr.heap.size → w5.cell? p = wr.cell? p := fun p hp => by rw [← hw5]; exact World.cell?_alloc_lt _ _ _ hp
              have z3 : ∀ w', Below w5.heap.size w5 w' → w'.cell? ⟨w.heap.size, 3, none⟩ = some (.slice (some ⟨vb, vo, none⟩) vs.length sc) := fun w' h => (h.cell (p := ⟨w.heap.size, 3, none⟩) (Nat.lt_of_lt_of_le q8 hl5)).trans ((e5 _ q8).trans p3)
              have zx : ∀ w', Below w5.heap.size w5 w' → w'.cell? ⟨vb, vo + k, none⟩ = some (.int .u64 (x : Int)) := fun w' h => (h.cell (p := ⟨vb, vo + k, none⟩) (Nat.lt_of_lt_of_le q9 hl5)).trans ((e5 _ q9).trans z0)
              have zs : ∀ w', Below w5.heap.size w5 w' → w'.cell? ⟨wr.heap.size, 2, none⟩ = some (.int .i64 (f.size : Int)) := fun w' h => (h.cell (p := ⟨wr.heap.size, 2, none⟩) hN.lt).trans ((hN.cell 2).trans rfl)
              have hrf : ∀ w : World, Below w.heap.size w w := fun w => Below.refl _ w
              have cn := fun w => hid (put_ok x f.size w hx64 hs8 hfit)
              clear c1 c2 y0 y1 y2 z0 p3 hmk Heq
              simp +contextual [EachOp, OpTo, go_sem, Oper.about, z3, zx, zs, hrf, hklt]
              exact fun w' h => ⟨trivial, callsIn_wide.2 (cn w').out⟩
            case kgo1 =>
              intro w' hb'
              have hO3 := only_below hO2 hb'
              have hB3 := hB2.below hb'
              have hN3 := hN.below hb'
              have y1' : w'.cell? ⟨wr.heap.size, 1, none⟩ = some (.int .i64 (f.at_ : Int)) := (hN3.cell 1).trans rfl
              have hsl := slice_bytes (P := Tryz.prog) 197 5 Tryz.underlying197 (by intro w; kernel_rfl) w1.heap.size 48 48 f.at_ (by omega) (by omega) w'
              have hcp := copy_at w1.heap.size f.at_ L (be x f.size) (48 - f.at_) w' hB3 (by omega) (by omega)
              have hst := setRow_heap w' w1.heap.size (bcells L) (bcells (putAt L f.at_ (be x f.size))) 5 (0, 0) hB3
              have hpl := putAt_length L f.at_ (be x f.size) (by omega)
              clear c1 c2 y0 y1 y2 z0 p3 hmk
              go_wp2
              go_roundw
              case rel => exact ⟨k + 1, _, by omega, by go_num, hpl.trans hL, Heq.out, hst, only_setRow hO3 _⟩
              case measure => simp [intOf]; omega
          · obtain rfl : k = r.fields.length := by omega
            rw [writeF_end _ _ _ _ (Nat.le_refl _)] at heq
            have hcv := conv_bcells (P := Tryz.prog) wr 197 9 5 Tryz.underlying197 Tryz.underlying5 Tryz.underlying9 L 48 w1.heap.size 5 (0, 0) hB
            rw [hL] at hcv
            go_wp2
            go_ret2
            exact ⟨_, by rw [HR.out, heq]; rfl, by rw [HR.out]; exact .nil, hbw⟩
  · have HR := hid (show writeH op now flags vs words data = ([], rightH op now flags vs) by simp [writeH, hz])
    generalize rightH op now flags vs = R at *
    obtain ⟨y1, y2⟩ := R
    go_enter Tryz.func108, Tryz.ntmps108
    unfold headV
    go_wp2_with fail
    refine (c1 _ b1).out.mono ?_
    rintro e w1 ⟨ev, rfl, her, hb⟩
    have Her := hid her
    cases her with
    | nil => exact absurd rfl hz
    | bare k h =>
      go_wp2
      go_ret2
      exact ⟨_, by rw [HR.out]; rfl, by rw [HR.out]; exact Her.out, b1.trans (hb.mono b1.size)⟩
    | at_ k h pl b h0 h1 =>
      clear h0 h1
      go_wp2
      go_ret2
      exact ⟨_, by rw [HR.out]; rfl, by rw [HR.out]; exact Her.out, b1.trans (hb.mono b1.size)⟩
end
end Go.Proofs.YtbimlijhgeajjaaGreatDoor
