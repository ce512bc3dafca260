/- An answer, made of names and numbers: full.make. -/
import Derived.Test.YtbimlijhgeajjaaGreatDoorFullNew
import Derived.Test.YtbimlijhgeajjaaGreatDoorHeadMk
import Derived.Test.YtbimlijhgeajjaaGreatDoorAhsW
import Derived.Test.YtbimlijhgeajjaaGreatDoorParse
import Derived.Test.YtbimlijhgeajjaaGreatDoorKnown
import Derived.Test.YtbimlijhgeajjaaGreatDoorTList
set_option linter.unusedSectionVars false
set_option linter.unusedSimpArgs false
set_option linter.unusedVariables false
namespace Go.Proofs.YtbimlijhgeajjaaGreatDoor
open Go Go.RowKit
set_option linter.unusedVariables false
set_option linter.unusedSectionVars false
set_option linter.unusedSimpArgs false
set_option maxRecDepth 100000
theorem u32_u64 (x : Int) (h : 0 ≤ x) (h2 : x ≤ 4294967295) : ∃ n : Nat, x = (n : Int) ∧ n ≤ 4294967295 := ⟨x.toNat, by omega, by omega⟩
theorem blkG {w w' : World} {b : Nat} {T : TypeId} {cs : Array Value} {r : Option Nat} (h : Blk w b T cs) (hg : w.grownBy w' r) (hr : r ≠ some b) : Blk w' b T cs := (hg.block b h.lt (fun e => hr e.symm)).trans h
theorem row_far {w0 w1 w2 : World} {base : Nat} {e : TypeId} {size n : Nat} {v u : Value} {xs : List Value} (hown : w0.ownsRow base e size v n xs) (hg : w1.grownBy w2 v.ownBlock) (p : Addr) (hp : p.block < base) (hlt : p.block < w1.heap.size) (h : w1.cell? p = some u) : w2.cell? p = some u :=
  (World.cell?_of_block (hg.block p.block hlt (by intro e; have := (hown.lt p.block e.symm).1; omega))).trans h
theorem cell_allocS {w : World} {p : Addr} {u : Value} {o : Obj} (h : w.cell? p = some u) : (w.alloc o).cell? p = some u :=
  (Below.cell ((Below.refl w.heap.size w).alloc (Nat.le_refl _) o) (World.block_lt_of_cell? w p h)).trans h
theorem news_new {W : World} {b : Nat} (hz : W.heap.size = b) (xs : List Value) (t : TypeId) : ∀ j u, xs[j]? = some u → (W.alloc (.cells xs.toArray t)).cell? ((⟨b, 0, none⟩ : Addr).add j) = some u := by
  intro j u hu
  subst hz
  rw [show (⟨W.heap.size, 0, none⟩ : Addr).add j = ⟨W.heap.size, j, none⟩ by (simp [Addr.add]; omega), cell_of_row _ _ _ _ _ _ (heap_alloc_new _ _)]
  simpa using hu
theorem sl_setN {W : World} {v : Value} {size n : Nat} {xs : List Value} (h : Sl W v size n xs) (g i : Nat) (u : Value) (hd : ∀ b o c, v = .slice (some ⟨b, o, none⟩) n c → n ≠ 0 → b ≠ g) : Sl (W.setCell ⟨g, i, none⟩ u) v size n xs := by
  obtain ⟨a, c, rfl, hl, hc⟩ := h
  refine ⟨a, c, rfl, hl, ?_⟩
  rcases Nat.eq_zero_or_pos n with h0 | h0
  · exact .inl h0
  · rcases hc with hc | ⟨b, o, rfl, hc⟩
    · omega
    · right
      have hn := hd b o c rfl (by omega)
      exact ⟨b, o, rfl, fun j x hx => (World.cell?_setCell_far _ _ _ _ (fun e => hn e.symm)).trans (hc j x hx)⟩
theorem u64_farN {W : World} {v : Value} {xs : List Nat} (h : Sl W v 1 xs.length (u64Cells xs)) {g : Nat} {t : TypeId} {cs : Array Value} (B : Blk W g t cs) (hc : ∀ (i : Nat) (x : Int), cs[i]? ≠ some (Value.int .u64 x)) :
    ∀ b o q, v = .slice (some ⟨b, o, none⟩) xs.length q → xs.length ≠ 0 → b ≠ g := by
  rintro b o q hv h0 rfl
  obtain ⟨a, c, hv', hl, hcc⟩ := h
  rw [hv] at hv'
  cases hv'
  rcases hcc with h1 | ⟨b', o', he, hcc⟩
  · exact h0 h1
  · cases he
    have h1 := hcc 0 (.int .u64 (xs[0]'(by omega) : Nat)) (by simp [u64Cells, List.getElem?_eq_getElem (show 0 < xs.length by omega)])
    rw [B.cell] at h1
    exact hc _ _ h1
def FMakePost (op flags : Int) (data : List UInt8) (R : Nat × Int × List Nat) (g : Nat) (cs : Array Value) (w0 : World) (e : Ending) (w' : World) : Prop :=
  ∃ v, e = .returned (pduV (if R.1 = 0 then op else 0) false (if R.1 = 0 then flags else 0) v (.slice none 0 0) data) ∧ Sl w' v 1 R.2.2.length (u64Cells R.2.2) ∧ KeptS (fun k => k = g) w0 w' ∧ Blk w' g 87 cs
section
variable (g : Nat) (p ta ga ua oa : Value) (sn ss : List UInt8) (lim : Int) (name : List UInt8) (disc : Bool) (stat cmd : Int) (gp left : Value) (closed : Bool)
  (op flags : Int) (data : List UInt8) (nv vv : Value) (ns : List (List UInt8)) (vs : List Nat) (w0 w : World)
  (hB : Blk w g 87 (fullC p ta ga ua oa sn ss lim name disc stat cmd gp left closed)) (hg0 : g < w0.heap.size)
  (hs0 : 0 ≤ stat) (hs1 : stat ≤ 4294967295) (hc0 : 0 ≤ cmd) (hc1 : cmd ≤ 4294967295)
  (h0 : -9223372036854775808 ≤ op) (h1 : op ≤ 9223372036854775807) (g0 : -9223372036854775808 ≤ flags) (g1 : flags ≤ 9223372036854775807)
  (hn : ns.length ≤ 50) (hm : vs.length ≤ 50) (hv : ∀ x ∈ vs, x ≤ 18446744073709551615) (hb : Below w0.heap.size w0 w)
  (hno : w.ownsRow w0.heap.size 9 1 nv ns.length (strCells ns)) (hvo : w.ownsRow w0.heap.size 114 1 vv vs.length (u64Cells vs)) (hT : AS w0) (hP : PT w0) (hk : ∀ (st : Int) (i : Nat) (x : Int), (fullC p ta ga ua oa sn ss lim name disc st cmd gp left closed)[i]? ≠ some (Value.int .u64 x))
include hB hg0 hs0 hs1 hc0 hc1 h0 h1 g0 g1 hn hm hv hb hno hvo hT hP hk
set_option maxHeartbeats 4000000 in
theorem fmake_any (hap : nv.ownBlock = none ∨ nv.ownBlock ≠ vv.ownBlock) : Calls Tryz.prog 40 #[.pointer (some ⟨g, 0, none⟩), .int .i64 op, .int .i64 flags, .string (bs data), nv, vv] w fun e w' =>
    FMakePost op flags data (makeH op flags (ns ++ tailN) (vs ++ tailV stat cmd)) g (fullC p ta ga ua oa sn ss lim name disc ((stat + 1) % 4294967296) cmd gp left closed) w0 e w' := by
  have hmx : Tryz.prog.follows .mixedOrders = true := by kernel_rfl
  have ca := fun W => hid (after_any cmd 31 W hc0 hc1)
  have HNO := hid hno; have HVO := hid hvo
  obtain ⟨W1, hW1⟩ : ∃ W1, w.alloc (.cells #[.int .i64 0, .bool false, .int .i64 0, .slice none 0 0, .slice none 0 0, .string ⟨#[]⟩] 54) = W1 := ⟨_, rfl⟩
  have k1 : Below w.heap.size w W1 := by rw [← hW1]; exact (Below.refl _ _).alloc (Nat.le_refl _) _
  have P1 : Blk W1 w.heap.size 54 #[.int .i64 0, .bool false, .int .i64 0, .slice none 0 0, .slice none 0 0, .string ⟨#[]⟩] := by rw [← hW1]; exact Blk.new _ _ _
  have z1 : W1.heap.size = w.heap.size + 1 := by rw [← hW1]; simp
  have B1 := hB.below k1
  have HN1 := hid (owns_below hno k1)
  have HV1 := hid (owns_below hvo k1)
  have hbz := hb.size
  clear hno hvo
  go_enter Tryz.func40, Tryz.ntmps40
  go_wp2_with (at_builtin; refine list_append_at rfl (.tmp 15) (.tmp 16) 23 rfl w0.heap.size 9 (.string ⟨#[]⟩) 1 16 Tryz.underlying23 infoStr0 rfl (by decide) nv ns.length (strCells ns) rfl (HN1.out.alloc _) ⟨w.heap.size + 1, 0, none⟩ 3 3 (strCells tailN) rfl rfl (news_new z1 (strCells tailN) 9) (by simp [Value.oneCell', strCells, tailN]) (by unfold maxLen; omega) (by omega) (by simp; omega) ?_; intro v2 w2 hown2 hgrow2 hat2)
  have a1 : Below W1.heap.size W1 (W1.alloc (.cells (strCells tailN).toArray 9)) := (Below.refl _ _).alloc (Nat.le_refl _) _
  have b1 := hb.trans ((k1.trans (a1.mono k1.size)).mono hbz)
  have b2 : Below w0.heap.size w0 w2 := below_append b1 (HN1.out.alloc _) hgrow2 (by simp; omega)
  have hz2 := hgrow2.size
  have B2 : Blk w2 g 87 (fullC p ta ga ua oa sn ss lim name disc stat cmd gp left closed) := blkG (B1.below a1) hgrow2 (by intro e; have := (HN1.out.lt g e).1; omega)
  have P2 : Blk w2 w.heap.size 54 #[.int .i64 0, .bool false, .int .i64 0, .slice none 0 0, .slice none 0 0, .string ⟨#[]⟩] := blkG (P1.below a1) hgrow2 (by intro e; have := (HNO.out.lt w.heap.size e).2; omega)
  have HV2 : Hid (w2.ownsRow w0.heap.size 114 1 vv vs.length (u64Cells vs)) := hid (owns_only (owns_below HV1.out a1) hgrow2 (fun k hk e => by rcases hap with h | h; rw [h] at e; cases e; exact h (e.trans hk.symm)))
  have HVW := hid (show vv.ownBlock ≠ some w.heap.size from fun e => by have := (HVO.out.lt w.heap.size e).2; omega)
  have HN2 := hid hown2
  have HAT := hid (show ∀ k, vv.ownBlock = some k → v2.ownBlock ≠ some k from fun k hk e => by
    rcases hat2 with h | h
    · rw [h] at e
      rcases hap with h' | h'
      · rw [h'] at e; cases e
      · exact h' (e.trans hk.symm)
    · rw [h] at e
      have := (HVO.out.lt k hk).2
      have h9 := Option.some.inj e
      simp at h9
      omega)
  have HB2 := hid b2
  obtain ⟨cm, hcm⟩ : ∃ cm, (cmd + 31) % 4294967296 = cm := ⟨_, rfl⟩
  have hcm0 : 0 ≤ cm := by omega
  have hcm1 : cm ≤ 4294967295 := by omega
  rw [hcm] at ca
  have ws : IntKind.u64.wrap stat = stat := by rw [IntKind.wrap_u64]; omega
  have wc : IntKind.u64.wrap cmd = cmd := by rw [IntKind.wrap_u64]; omega
  have wm : IntKind.u64.wrap cm = cm := by rw [IntKind.wrap_u64]; omega
  have s10 := (B2.cell 10).trans (rfl : _ = some (Value.int .u32 stat))
  have s11 := (B2.cell 11).trans (rfl : _ = some (Value.int .u32 cmd))
  have hz0 : w0.heap.size ≤ w2.heap.size := b2.size
  clear hgrow2 hown2 b2 b1 a1 hW1 hB hb HN1 HV1 HNO HVO k1 P1 B1
  go_upto_region 2 with fail
  have hgz : g < w2.heap.size := by omega
  go_region_held3 (fun w' => w'.cell? ⟨g, 10, none⟩ = some (.int .u32 stat) ∧ w'.cell? ⟨g, 11, none⟩ = some (.int .u32 cmd))
    (first | exact ⟨by assumption, by assumption⟩ | go_keep | exact ⟨cell_allocS (by assumption), cell_allocS (by assumption)⟩ | exact ⟨row_far HV2.out hgrow8 ⟨g, 10, none⟩ hg0 (by simp; omega) (cell_allocS (by assumption)), row_far HV2.out hgrow8 ⟨g, 11, none⟩ hg0 (by simp; omega) (cell_allocS (by assumption))⟩)
    (first
      | (go_at_call 81; refine (ca _).out.mono ?_; rintro e w7 ⟨rfl, rfl⟩)
      | (refine step_append_own rfl (.tmp 18) (.tmp 35) 49 (by rfl) w0.heap.size 114 (.int .u64 0) 1 8 Tryz.underlying49 infoU64 rfl (by decide) vv vs.length (u64Cells vs) (by simp [Act.eval]) ((owns_below HV2.out (Below.refl _ _).drew).alloc _) ⟨w2.heap.size, 0, none⟩ 3 3 [.int .u64 stat, .int .u64 cmd, .int .u64 cm] (by simp [Act.eval]) rfl (news_new rfl _ 114) (by simp [Value.oneCell']) (by unfold maxLen; omega) (by omega) (by simp; omega) ?_; intro v8 w8 hown8 hgrow8 _))
  have HV8 : w8.ownsRow w0.heap.size 114 1 v8 (vs ++ tailV stat cmd).length (u64Cells (vs ++ tailV stat cmd)) := by
    have e1 : (vs ++ tailV stat cmd).length = vs.length + 3 := by simp [tailV]
    have e2 : u64Cells (vs ++ tailV stat cmd) = u64Cells vs ++ [.int .u64 stat, .int .u64 cmd, .int .u64 cm] := by
      simp only [u64Cells, List.map_append, tailV, List.map_cons, List.map_nil]
      rw [hcm]
      rw [show ((stat.toNat : Nat) : Int) = stat by omega, show ((cmd.toNat : Nat) : Int) = cmd by omega, show ((cm.toNat : Nat) : Int) = cm by omega]
    rw [e1, e2]; exact hown8
  have hownA : (w2.drew.alloc (.cells #[.int .u64 stat, .int .u64 cmd, .int .u64 cm] 114)).ownsRow w0.heap.size 114 1 vv vs.length (u64Cells vs) := (owns_below HV2.out (Below.refl _ _).drew).alloc _
  have bA : Below w2.heap.size w2 (w2.drew.alloc (.cells #[.int .u64 stat, .int .u64 cmd, .int .u64 cm] 114)) := (Below.refl _ _).drew.alloc (Nat.le_refl _) _
  have b8 : Below w0.heap.size w0 w8 := below_append (HB2.out.trans (bA.mono hz0)) hownA hgrow8 (by simp; omega)
  have N8 : w8.ownsRow w0.heap.size 9 1 v2 (ns ++ tailN).length (strCells (ns ++ tailN)) := by
    have e1 : (ns ++ tailN).length = ns.length + 3 := by simp [tailN]
    have e2 : strCells (ns ++ tailN) = strCells ns ++ strCells tailN := by simp [strCells]
    rw [e1, e2]
    exact owns_only (owns_below HN2.out bA) hgrow8 (fun k hk e => HAT.out k e hk)
  have B8 : Blk w8 g 87 (fullC p ta ga ua oa sn ss lim name disc stat cmd gp left closed) := blkG (B2.below bA) hgrow8 (by intro e; have := (hownA.lt g e).1; omega)
  have P8 : Blk w8 w.heap.size 54 #[.int .i64 0, .bool false, .int .i64 0, .slice none 0 0, .slice none 0 0, .string ⟨#[]⟩] := blkG (P2.below bA) hgrow8 (HVW.out)
  have cm := hid (make_any op flags v2 v8 (ns ++ tailN) (vs ++ tailV stat cmd) w8 h0 h1 g0 g1 (by simp [tailN]; omega) (by simp [tailV]; omega) ?hvv (sl_of_owns N8) (sl_of_owns HV8) (hT.below b8 (Nat.le_refl _)) (hP.below b8 (Nat.le_refl _)))
  case hvv =>
    intro x hx
    rcases List.mem_append.1 hx with h | h
    · exact hv x h
    · simp only [tailV, List.mem_cons, List.not_mem_nil, or_false] at h
      rcases h with rfl | rfl | rfl <;> omega
  unfold MakePost headV at cm
  have HK := hid hk
  clear hk
  obtain ⟨R, hR⟩ : ∃ R, makeH op flags (ns ++ tailN) (vs ++ tailV stat cmd) = R := ⟨_, rfl⟩
  rw [hR] at cm
  have HR := hid hR
  clear hR
  clear hown8 hgrow8 HV8 N8 HV2 HN2 HAT hownA B2 P2 s10 s11 hT hP hv HB2 bA
  go_wp2_with fail
  refine cm.out.mono ?_
  rintro e w9 ⟨v, ev, rfl, -, hsl, hb9⟩
  have B9 := B8.below hb9
  have P9 := P8.below hb9
  have b9 := b8.trans (hb9.mono b8.size)
  obtain ⟨sa, sc, rfl, -⟩ : ∃ sa sc, v = .slice sa R.2.2.length sc ∧ True := by obtain ⟨a, c, h, _⟩ := hsl; exact ⟨a, c, h, trivial⟩
  obtain ⟨o', ho'⟩ : ∃ o', (if R.1 = 0 then op else 0) = o' := ⟨_, rfl⟩
  obtain ⟨f', hf'⟩ : ∃ f', (if R.1 = 0 then flags else 0) = f' := ⟨_, rfl⟩
  rw [ho', hf']
  have HO' := hid ho'; have HF' := hid hf'
  clear ho' hf' cm
  obtain ⟨W10, hW10⟩ : ∃ W10, w9.alloc (.cells #[.int .i64 o', .bool false, .int .i64 f', .slice sa R.2.2.length sc] 51) = W10 := ⟨_, rfl⟩
  have k10 : Below w9.heap.size w9 W10 := by rw [← hW10]; exact (Below.refl _ _).alloc (Nat.le_refl _) _
  have H10 : Blk W10 w9.heap.size 51 #[.int .i64 o', .bool false, .int .i64 f', .slice sa R.2.2.length sc] := by rw [← hW10]; exact Blk.new _ _ _
  have B10 := B9.below k10
  have P10 := P9.below k10
  have b10 := b9.trans (k10.mono b9.size)
  have hPl := P9.lt
  have hsl10 := hsl.below (by omega) k10
  have s10 := (B10.cell 10).trans (rfl : _ = some (Value.int .u32 stat))
  have f10 := B10.free 10
  have hw : IntKind.u32.wrap (stat + 1) = (stat + 1) % 4294967296 := by rw [IntKind.wrap_u32]
  obtain ⟨W11, hW11⟩ : ∃ W11, W10.setCell ⟨g, 10, none⟩ (.int .u32 ((stat + 1) % 4294967296)) = W11 := ⟨_, rfl⟩
  have B11 : Blk W11 g 87 (fullC p ta ga ua oa sn ss lim name disc ((stat + 1) % 4294967296) cmd gp left closed) := by rw [← hW11]; exact B10.set 10 _
  have H11 : Blk W11 w9.heap.size 51 #[.int .i64 o', .bool false, .int .i64 f', .slice sa R.2.2.length sc] := by rw [← hW11]; exact blk_offN H10 10 _ (by omega)
  have P11 : Blk W11 w.heap.size 54 #[.int .i64 0, .bool false, .int .i64 0, .slice none 0 0, .slice none 0 0, .string ⟨#[]⟩] := by rw [← hW11]; exact blk_offN P10 10 _ (by omega)
  have x0 := (H11.cell 0).trans (rfl : _ = some (Value.int .i64 o'))
  have x1 := (H11.cell 1).trans (rfl : _ = some (Value.bool false))
  have x2 := (H11.cell 2).trans (rfl : _ = some (Value.int .i64 f'))
  have x3 := (H11.cell 3).trans (rfl : _ = some (Value.slice sa R.2.2.length sc))
  have y0 := (P11.cell 0).trans (rfl : _ = some (Value.int .i64 0))
  have y1 := (P11.cell 1).trans (rfl : _ = some (Value.bool false))
  have y2 := (P11.cell 2).trans (rfl : _ = some (Value.int .i64 0))
  have y3 := (P11.cell 3).trans (rfl : _ = some (Value.slice none 0 0))
  have y4 := (P11.cell 4).trans (rfl : _ = some (Value.slice none 0 0))
  have y5 := (P11.cell 5).trans (rfl : _ = some (Value.string ⟨#[]⟩))
  have v0 := P11.free 0
  have v1 := P11.free 1
  have v2' := P11.free 2
  have v3 := P11.free 3
  have v4 := P11.free 4
  have v5 := P11.free 5
  have HB11 := hid B11; have HP11 := hid P11; have HSL := hid hsl10
  have HB10 := hid B10
  clear B9 P9 B10 P10 H10 H11 P11 B11 hsl hsl10 B8 P8
  go_wp2
  obtain ⟨W12, hW12⟩ : ∃ W12, ((((((W11.setCell ⟨w.heap.size, 0, none⟩ (.int .i64 o')).setCell ⟨w.heap.size, 1, none⟩ (.bool false)).setCell ⟨w.heap.size, 2, none⟩ (.int .i64 f')).setCell ⟨w.heap.size, 3, none⟩ (.slice sa R.2.2.length sc)).setCell ⟨w.heap.size, 4, none⟩ (.slice none 0 0)).setCell ⟨w.heap.size, 5, none⟩ (.string (bs data))) = W12 := ⟨_, rfl⟩
  have T0 : Blk W12 w.heap.size 54 #[.int .i64 o', .bool false, .int .i64 f', .slice sa R.2.2.length sc, .slice none 0 0, .string (bs data)] := by
    rw [← hW12]
    exact (((((HP11.out.set 0 _).set 1 _).set 2 _).set 3 _).set 4 _).set 5 _
  have B12 : Blk W12 g 87 (fullC p ta ga ua oa sn ss lim name disc ((stat + 1) % 4294967296) cmd gp left closed) := by
    rw [← hW12]
    iterate 6 refine blk_offN ?_ _ _ (by omega)
    exact HB11.out
  have e1 := (T0.cell 0).trans (rfl : _ = some (Value.int .i64 o'))
  have e2 := (T0.cell 1).trans (rfl : _ = some (Value.bool false))
  have e3 := (T0.cell 2).trans (rfl : _ = some (Value.int .i64 f'))
  have e4 := (T0.cell 3).trans (rfl : _ = some (Value.slice sa R.2.2.length sc))
  have e5 := (T0.cell 4).trans (rfl : _ = some (Value.slice none 0 0))
  have e6 := (T0.cell 5).trans (rfl : _ = some (Value.string (bs data)))
  have KS : KeptS (fun k => k = g) w0 W12 := by
    rw [← hW12, ← hW11]
    have k0 : KeptS (fun k => k = g) w0 W10 := ⟨b10.os, b10.tape, b10.output, b10.size, fun k hk _ => b10.block k hk⟩
    exact ((((((k0.set _ _ (.inl rfl)).set _ _ (.inr hbz)).set _ _ (.inr hbz)).set _ _ (.inr hbz)).set _ _ (.inr hbz)).set _ _ (.inr hbz)).set _ _ (.inr hbz)
  have S12 : Sl W12 (.slice sa R.2.2.length sc) 1 R.2.2.length (u64Cells R.2.2) := by
    rw [← hW12]
    have S11 : Sl W11 (.slice sa R.2.2.length sc) 1 R.2.2.length (u64Cells R.2.2) := by
      rw [← hW11]
      refine sl_setN HSL.out g 10 _ (u64_farN HSL.out (g := g) (t := 87) (cs := fullC p ta ga ua oa sn ss lim name disc stat cmd gp left closed) HB10.out (HK.out stat))
    have hfar := u64_farN S11 HP11.out (fun i x h => by rcases i with _ | _ | _ | _ | _ | _ | i <;> simp at h)
    iterate 6 refine sl_setN ?_ _ _ _ hfar
    exact S11
  rw [hW12]
  clear hW12 hW11 hW10
  refine bodyPost_ret (v := pduV o' false f' (.slice sa R.2.2.length sc) (.slice none 0 0) data) (by simp [results, Tryz.results40, go_sem, pduV, e1, e2, e3, e4, e5, e6]) rfl ?_
  rw [HR.out]
  exact ⟨_, by rw [HO'.out, HF'.out], S12, KS, B12⟩
end
end Go.Proofs.YtbimlijhgeajjaaGreatDoor

namespace Go.Proofs.YtbimlijhgeajjaaGreatDoor
open Go Go.RowKit
set_option linter.unusedVariables false
set_option linter.unusedSectionVars false
set_option linter.unusedSimpArgs false
set_option maxRecDepth 100000
/-- what is wrong with a refusal -/
def refE (reason : Int) (h : List UInt8) : Nat := if reason < 0 ∨ 255 < reason then 2 else if h.length ≠ 48 then 4 else 0
theorem refE_zero {reason : Int} {h : List UInt8} (e : refE reason h = 0) : 0 ≤ reason ∧ reason ≤ 255 ∧ h.length = 48 := by
  unfold refE at e
  split at e
  · cases e
  · split at e
    · cases e
    · omega
/-- a row of words that is laid new -/
theorem owns_lit {w : World} {B : Nat} (hB : B ≤ w.heap.size) (e : TypeId) (xs : List Value) (n : Nat) (hn : xs.length = n) (hm : n ≤ 1000000) : (w.alloc (.cells xs.toArray e)).ownsRow B e 1 (.slice (some ⟨w.heap.size, 0, none⟩) n n) n xs :=
  ⟨by omega, .inr ⟨w.heap.size, n, xs.toArray, rfl, hB, heap_alloc_new _ _, Nat.le_refl _, by unfold maxLen; omega, by simp; omega, by simp [List.take_of_length_le, hn]⟩⟩
def FRefPost (g : Nat) (cs : Int → Array Value) (stat cmd : Int) (h : List UInt8) (reason : Int) (w : World) (e : Ending) (w' : World) : Prop :=
  ∃ v, e = .returned (.tuple #[pduV (if refE reason h = 0 then 63 else 0) false (if refE reason h = 0 then 128 else 0) v (.slice none 0 0) (if refE reason h = 0 then h else []), errV 32 (refE reason h)]) ∧
    Sl w' v 1 (if refE reason h = 0 then rejL reason stat cmd else []).length (u64Cells (if refE reason h = 0 then rejL reason stat cmd else [])) ∧ KeptS (fun k => k = g) w w' ∧ Blk w' g 87 (cs (if refE reason h = 0 then (stat + 1) % 4294967296 else stat))
section
variable (g : Nat) (p ta ga ua oa : Value) (sn ss : List UInt8) (lim : Int) (name : List UInt8) (disc : Bool) (stat cmd : Int) (gp left : Value) (closed : Bool) (h : List UInt8) (reason : Int) (w : World)
  (hB : Blk w g 87 (fullC p ta ga ua oa sn ss lim name disc stat cmd gp left closed))
  (hs0 : 0 ≤ stat) (hs1 : stat ≤ 4294967295) (hc0 : 0 ≤ cmd) (hc1 : cmd ≤ 4294967295)
  (hT : AS w) (hP : PT w) (hk : ∀ (st : Int) (i : Nat) (x : Int), (fullC p ta ga ua oa sn ss lim name disc st cmd gp left closed)[i]? ≠ some (Value.int .u64 x))
include hB hs0 hs1 hc0 hc1 hT hP hk
set_option maxHeartbeats 4000000 in
theorem fRefuse_any : Calls Tryz.prog 11 #[.pointer (some ⟨g, 0, none⟩), .string (bs h), .int .i64 reason] w fun e w' =>
    FRefPost g (fun st => fullC p ta ga ua oa sn ss lim name disc st cmd gp left closed) stat cmd h reason w e w' := by
  obtain ⟨W1, hW1⟩ : ∃ W1, w.alloc (.cells #[.int .i64 0, .bool false, .int .i64 0, .slice none 0 0, .slice none 0 0, .string ⟨#[]⟩] 54) = W1 := ⟨_, rfl⟩
  have k1 : Below w.heap.size w W1 := by rw [← hW1]; exact (Below.refl _ _).alloc (Nat.le_refl _) _
  have P1 : Blk W1 w.heap.size 54 #[.int .i64 0, .bool false, .int .i64 0, .slice none 0 0, .slice none 0 0, .string ⟨#[]⟩] := by rw [← hW1]; exact Blk.new _ _ _
  have z1 : W1.heap.size = w.heap.size + 1 := by rw [← hW1]; simp
  have B1 := hB.below k1
  have hgl := hB.lt
  by_cases hbad : refE reason h ≠ 0
  · have y0 := (P1.cell 0).trans (rfl : _ = some (Value.int .i64 0))
    have y1 := (P1.cell 1).trans (rfl : _ = some (Value.bool false))
    have y2 := (P1.cell 2).trans (rfl : _ = some (Value.int .i64 0))
    have y3 := (P1.cell 3).trans (rfl : _ = some (Value.slice none 0 0))
    have y4 := (P1.cell 4).trans (rfl : _ = some (Value.slice none 0 0))
    have y5 := (P1.cell 5).trans (rfl : _ = some (Value.string ⟨#[]⟩))
    have v0 := P1.free 0; have v1 := P1.free 1; have v2 := P1.free 2; have v3 := P1.free 3; have v4 := P1.free 4; have v5 := P1.free 5
    obtain ⟨W2, hW2⟩ : ∃ W2, ((((((W1.setCell ⟨w.heap.size, 0, none⟩ (.int .i64 0)).setCell ⟨w.heap.size, 1, none⟩ (.bool false)).setCell ⟨w.heap.size, 2, none⟩ (.int .i64 0)).setCell ⟨w.heap.size, 3, none⟩ (.slice none 0 0)).setCell ⟨w.heap.size, 4, none⟩ (.slice none 0 0)).setCell ⟨w.heap.size, 5, none⟩ (.string ⟨#[]⟩)) = W2 := ⟨_, rfl⟩
    have T0 : Blk W2 w.heap.size 54 #[.int .i64 0, .bool false, .int .i64 0, .slice none 0 0, .slice none 0 0, .string ⟨#[]⟩] := by
      rw [← hW2]
      exact (((((P1.set 0 _).set 1 _).set 2 _).set 3 _).set 4 _).set 5 _
    have B2 : Blk W2 g 87 (fullC p ta ga ua oa sn ss lim name disc stat cmd gp left closed) := by
      rw [← hW2]
      iterate 6 refine blk_offN ?_ _ _ (by omega)
      exact B1
    have K2 : KeptS (fun k => k = g) w W2 := by
      rw [← hW2]
      exact (((((((KeptS.refl _ w).below k1).set _ _ (.inr (Nat.le_refl _))).set _ _ (.inr (Nat.le_refl _))).set _ _ (.inr (Nat.le_refl _))).set _ _ (.inr (Nat.le_refl _))).set _ _ (.inr (Nat.le_refl _))).set _ _ (.inr (Nat.le_refl _))
    have e1 := (T0.cell 0).trans (rfl : _ = some (Value.int .i64 0))
    have e2 := (T0.cell 1).trans (rfl : _ = some (Value.bool false))
    have e3 := (T0.cell 2).trans (rfl : _ = some (Value.int .i64 0))
    have e4 := (T0.cell 3).trans (rfl : _ = some (Value.slice none 0 0))
    have e5 := (T0.cell 4).trans (rfl : _ = some (Value.slice none 0 0))
    have e6 := (T0.cell 5).trans (rfl : _ = some (Value.string ⟨#[]⟩))
    have HK := hid K2; have HB2 := hid B2
    clear hB hT hP hk B1 P1 K2 B2 T0
    unfold FRefPost
    by_cases hr : reason < 0 ∨ 255 < reason
    · have hE : refE reason h = 2 := by unfold refE; rw [if_pos hr]
      rw [hE]
      simp only [if_neg (show ¬ (2 : Nat) = 0 by omega)]
      by_cases ha : reason < 0
      · go_enter Tryz.func11, Tryz.ntmps11
        go_wp2
        refine bodyPost_ret (v := .tuple #[pduV 0 false 0 (.slice none 0 0) (.slice none 0 0) [], .iface 32 (.int .i64 2)]) (by simp [results, Tryz.results11, go_sem, pduV, e1, e2, e3, e4, e5, e6]; rfl) rfl ?_
        exact ⟨_, rfl, sl_nil _ _, HK.out, HB2.out⟩
      · have hb : 255 < reason := by omega
        go_enter Tryz.func11, Tryz.ntmps11
        go_wp2
        refine bodyPost_ret (v := .tuple #[pduV 0 false 0 (.slice none 0 0) (.slice none 0 0) [], .iface 32 (.int .i64 2)]) (by simp [results, Tryz.results11, go_sem, pduV, e1, e2, e3, e4, e5, e6]; rfl) rfl ?_
        exact ⟨_, rfl, sl_nil _ _, HK.out, HB2.out⟩
    · have hr2 : h.length ≠ 48 := by
        intro hl
        apply hbad
        unfold refE
        rw [if_neg hr, if_neg (by omega)]
      have hE : refE reason h = 4 := by unfold refE; rw [if_neg hr, if_pos hr2]
      rw [hE]
      simp only [if_neg (show ¬ (4 : Nat) = 0 by omega)]
      have ha : ¬ reason < 0 := by omega
      have hb : ¬ 255 < reason := by omega
      have hl : ((h.length : Int) != 48) = true := by simp; omega
      clear hbad hr2
      go_enter Tryz.func11, Tryz.ntmps11
      go_wp2
      refine bodyPost_ret (v := .tuple #[pduV 0 false 0 (.slice none 0 0) (.slice none 0 0) [], .iface 32 (.int .i64 4)]) (by simp [results, Tryz.results11, go_sem, pduV, e1, e2, e3, e4, e5, e6]; rfl) rfl ?_
      exact ⟨_, rfl, sl_nil _ _, HK.out, HB2.out⟩
  · have hE : refE reason h = 0 := Classical.byContradiction hbad
    obtain ⟨a0, a1, hl⟩ := refE_zero hE
    have ha : ¬ reason < 0 := by omega
    have hb : ¬ 255 < reason := by omega
    have hl2 : ((h.length : Int) != 48) = false := by simp; omega
    unfold FRefPost
    rw [hE]
    simp only [if_true]
    clear hbad hE
    obtain ⟨rn, hrn⟩ : ∃ rn : Nat, reason = (rn : Int) := ⟨reason.toNat, by omega⟩
    have wr : IntKind.u64.wrap reason = reason := by rw [IntKind.wrap_u64]; omega
    obtain ⟨W2, hW2⟩ : ∃ W2, W1.alloc (.cells #[.string ⟨#[82, 101, 97, 115, 111, 110]⟩, .string ⟨#[73, 84, 84]⟩] 9) = W2 := ⟨_, rfl⟩
    have k2 : Below W1.heap.size W1 W2 := by rw [← hW2]; exact (Below.refl _ _).alloc (Nat.le_refl _) _
    have N2 : W2.ownsRow W1.heap.size 9 1 (.slice (some ⟨W1.heap.size, 0, none⟩) 2 2) 2 (strCells [nmReason, nmITT]) := by rw [← hW2]; exact owns_lit (Nat.le_refl _) _ _ 2 rfl (by omega)
    have z2 : W2.heap.size = w.heap.size + 2 := by rw [← hW2]; simp [z1]
    obtain ⟨W3, hW3⟩ : ∃ W3, W2.alloc (.cells #[.int .u64 reason, .int .u64 4294967295] 114) = W3 := ⟨_, rfl⟩
    have k3 : Below W2.heap.size W2 W3 := by rw [← hW3]; exact (Below.refl _ _).alloc (Nat.le_refl _) _
    have b3 := k2.trans (k3.mono k2.size)
    have V3 : W3.ownsRow W1.heap.size 114 1 (.slice (some ⟨W2.heap.size, 0, none⟩) 2 2) 2 (u64Cells [reason.toNat, 4294967295]) := by
      rw [← hW3, show u64Cells [reason.toNat, 4294967295] = [.int .u64 reason, .int .u64 4294967295] by simp [u64Cells]; omega]
      exact owns_lit (by omega) _ _ 2 rfl (by omega)
    have N3 := owns_below N2 k3
    have B3 := (B1.below k2).below k3
    have cm := hid (fmake_any g p ta ga ua oa sn ss lim name disc stat cmd gp left closed 63 128 h _ _ [nmReason, nmITT] [reason.toNat, 4294967295] W1 W3 B3 (by omega) hs0 hs1 hc0 hc1 (by omega) (by omega) (by omega) (by omega) (by simp) (by simp) (by simp; omega) b3 N3 V3 (hT.below k1 (Nat.le_refl _)) (hP.below k1 (Nat.le_refl _)) hk (.inr (by simp [Value.ownBlock]; omega)))
    rw [make_rej stat cmd hs0 hs1 hc0 hc1 reason a0 a1] at cm
    unfold FMakePost at cm
    simp only [if_true] at cm
    have HP1 := hid P1
    have HK1 := hid (KeptS.below (KeptS.refl (fun k => k = g) w) k1)
    rw [z1, z2] at cm
    clear hT hP hk hB B1 N2 N3 V3 B3 k2 k3 hrn a0 a1 P1 b3
    go_enter Tryz.func11, Tryz.ntmps11
    go_wp2_with fail
    refine cm.out.mono ?_
    rintro e w5 ⟨v, rfl, hsl, hK, hB5⟩
    have P5 := hK.blk HP1.out (by omega)
    have h5 := P5.lt
    have KS : KeptS (fun k => k = g) w w5 := HK1.out.trans hK (fun i hi => .inl hi)
    obtain ⟨sa, sc, rfl, -⟩ : ∃ sa sc, v = .slice sa (rejL reason stat cmd).length sc ∧ True := by obtain ⟨a, c, h, _⟩ := hsl; exact ⟨a, c, h, trivial⟩
    have y0 := (P5.cell 0).trans (rfl : _ = some (Value.int .i64 0))
    have y1 := (P5.cell 1).trans (rfl : _ = some (Value.bool false))
    have y2 := (P5.cell 2).trans (rfl : _ = some (Value.int .i64 0))
    have y3 := (P5.cell 3).trans (rfl : _ = some (Value.slice none 0 0))
    have y4 := (P5.cell 4).trans (rfl : _ = some (Value.slice none 0 0))
    have y5 := (P5.cell 5).trans (rfl : _ = some (Value.string ⟨#[]⟩))
    have v0 := P5.free 0; have v1 := P5.free 1; have v2 := P5.free 2; have v3 := P5.free 3; have v4 := P5.free 4; have v5 := P5.free 5
    obtain ⟨W6, hW6⟩ : ∃ W6, ((((((w5.setCell ⟨w.heap.size, 0, none⟩ (.int .i64 63)).setCell ⟨w.heap.size, 1, none⟩ (.bool false)).setCell ⟨w.heap.size, 2, none⟩ (.int .i64 128)).setCell ⟨w.heap.size, 3, none⟩ (.slice sa (rejL reason stat cmd).length sc)).setCell ⟨w.heap.size, 4, none⟩ (.slice none 0 0)).setCell ⟨w.heap.size, 5, none⟩ (.string (bs h))) = W6 := ⟨_, rfl⟩
    have T0 : Blk W6 w.heap.size 54 #[.int .i64 63, .bool false, .int .i64 128, .slice sa (rejL reason stat cmd).length sc, .slice none 0 0, .string (bs h)] := by
      rw [← hW6]
      exact (((((P5.set 0 _).set 1 _).set 2 _).set 3 _).set 4 _).set 5 _
    have B6 : Blk W6 g 87 (fullC p ta ga ua oa sn ss lim name disc ((stat + 1) % 4294967296) cmd gp left closed) := by
      rw [← hW6]
      iterate 6 refine blk_offN ?_ _ _ (by omega)
      exact hB5
    have K6 : KeptS (fun k => k = g) w W6 := by
      rw [← hW6]
      exact (((((KS.set _ _ (.inr (Nat.le_refl _))).set _ _ (.inr (Nat.le_refl _))).set _ _ (.inr (Nat.le_refl _))).set _ _ (.inr (Nat.le_refl _))).set _ _ (.inr (Nat.le_refl _))).set _ _ (.inr (Nat.le_refl _))
    have S6 : Sl W6 (.slice sa (rejL reason stat cmd).length sc) 1 (rejL reason stat cmd).length (u64Cells (rejL reason stat cmd)) := by
      rw [← hW6]
      have hfar := u64_farN hsl P5 (fun i x h => by rcases i with _ | _ | _ | _ | _ | _ | i <;> simp at h)
      iterate 6 refine sl_setN ?_ _ _ _ hfar
      exact hsl
    have e1 := (T0.cell 0).trans (rfl : _ = some (Value.int .i64 63))
    have e2 := (T0.cell 1).trans (rfl : _ = some (Value.bool false))
    have e3 := (T0.cell 2).trans (rfl : _ = some (Value.int .i64 128))
    have e4 := (T0.cell 3).trans (rfl : _ = some (Value.slice sa (rejL reason stat cmd).length sc))
    have e5 := (T0.cell 4).trans (rfl : _ = some (Value.slice none 0 0))
    have e6 := (T0.cell 5).trans (rfl : _ = some (Value.string (bs h)))
    have HK6 := hid K6; have HB6 := hid B6; have HS6 := hid S6
    clear cm hsl hK hB5 P5 KS T0 K6 B6 S6 HP1
    generalize hRL : rejL reason stat cmd = RL at *
    have HRL := hid hRL
    clear hRL
    unfold pduV
    go_wp2
    refine bodyPost_ret (v := .tuple #[pduV 63 false 128 (.slice sa RL.length sc) (.slice none 0 0) h, .nilIface]) (by simp [results, Tryz.results11, go_sem, pduV, e1, e2, e3, e4, e5, e6]) rfl ?_
    exact ⟨_, rfl, by rw [HRL.out]; exact HS6.out, HK6.out, HB6.out⟩
end
end Go.Proofs.YtbimlijhgeajjaaGreatDoor
