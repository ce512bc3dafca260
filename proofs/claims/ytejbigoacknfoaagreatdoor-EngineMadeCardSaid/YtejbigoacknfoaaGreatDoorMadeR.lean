/- ref.Made: by the document. -/
import Derived.Test.YtejbigoacknfoaaGreatDoorMade
import Derived.Test.YtejbigoacknfoaaGreatDoorHeadMkR
import Derived.Test.YtejbigoacknfoaaGreatDoorPduWrR
import Derived.Deep.QuietTactic
import Derived.BigQuiet
import Derived.StillTailTactics
set_option linter.unusedSectionVars false
set_option linter.unusedSimpArgs false
set_option linter.unusedVariables false
namespace Go.Proofs.YtejbigoacknfoaaGreatDoor
open Go Go.RowKit
set_option linter.unusedVariables false
set_option linter.unusedSectionVars false
set_option linter.unusedSimpArgs false
set_option maxRecDepth 100000
def MadeRPost (R : List UInt8 × Nat × Int) (w : World) (e : Ending) (w' : World) : Prop :=
  e = .returned (.tuple #[.string (bs R.1), faultV R.2.1 R.2.2]) ∧ Below w.heap.size w w'
def RMadeR (name : List UInt8) (w1 : World) (i : Value) (wr : World) : Prop :=
  ∃ k : Nat, k ≤ 18 ∧ i = .int .i64 (k : Nat) ∧ (∀ x ∈ headRows.take k, x.name ≠ name) ∧ Below w1.heap.size w1 wr
theorem madeP_kind {r : HR} (hr : r ∈ headRows) (now : Bool) (flags : Int) (ns : List (List UInt8)) (vs : List Nat) (d : List UInt8) (mode : Int) :
    madeP r.name now flags ns vs d mode = if (makeH (r.op : Int) flags ns vs).1 ≠ 0 then ([], (makeH (r.op : Int) flags ns vs).1, (makeH (r.op : Int) flags ns vs).2.1)
      else ((pduW (r.op : Int) now flags (makeH (r.op : Int) flags ns vs).2.2 0 noAhs d mode).1, (pduW (r.op : Int) now flags (makeH (r.op : Int) flags ns vs).2.2 0 noAhs d mode).2, -1) := by
  unfold madeP
  rw [kindN_row r hr]
theorem madeP_no {name : List UInt8} (h : ∀ x ∈ headRows.take 18, x.name ≠ name) (now : Bool) (flags : Int) (ns : List (List UInt8)) (vs : List Nat) (d : List UInt8) (mode : Int) :
    madeP name now flags ns vs d mode = ([], 5, -1) := by
  rw [show (18 : Nat) = headRows.length from rfl, List.take_length] at h
  unfold madeP
  rw [show kindN name = none from List.find?_eq_none.2 fun x hx => by simpa using h x hx]
theorem take_name {name : List UInt8} {k : Nat} {r : HR} (h : headRows[k]? = some r) (hn : ∀ x ∈ headRows.take k, x.name ≠ name) (he : r.name ≠ name) : ∀ x ∈ headRows.take (k + 1), x.name ≠ name := by
  obtain ⟨h1, h2⟩ := List.getElem?_eq_some_iff.1 h
  rw [List.take_succ_eq_append_getElem h1, h2]
  intro x hx
  rcases List.mem_append.1 hx with hx | hx
  · exact hn x hx
  · rw [List.mem_singleton.1 hx]; exact he
section
variable (name : List UInt8) (now : Bool) (flags : Int) (nv vv : Value) (ns : List (List UInt8)) (vs : List Nat) (d : List UInt8) (mode : Int) (w : World) (g0 : -9223372036854775808 ≤ flags) (g1 : flags ≤ 9223372036854775807)
  (hn : ns.length ≤ 60) (hm : vs.length ≤ 60) (hv : ∀ x ∈ vs, x ≤ 18446744073709551615) (hnl : ∀ s ∈ ns, s.length ≤ 9223372036854775807) (hns : Sl w nv 1 ns.length (strCells ns)) (hvs : Sl w vv 1 vs.length (u64Cells vs)) (hd : d.length ≤ 2000) (m0 : -9223372036854775808 ≤ mode) (m1 : mode ≤ 9223372036854775807) (hg : EType w) (hT : AS w) (hP : PT w)
include g0 g1 hn hm hv hnl hns hvs hd m0 m1 hg hT hP
set_option maxHeartbeats 8000000 in
theorem rmade_any : Calls Tryz.prog 31 #[.string (bs name), .bool now, .int .i64 flags, nv, vv, .string (bs d), .int .i64 mode] w fun e w' => MadeRPost (madeP name now flags ns vs d mode) w e w' := by
  have ck := fun w => hid (kinds_any w)
  have cb := fun k w => hid (bareF_any k w)
  have ci := fun k pl w => hid (faultIs_any k pl w)
  have C2 := hid (fun (k : Nat) w1 (hk : k < 64) (hb : Below w.heap.size w w1) => rmake_any (k : Int) flags nv vv ns vs w1 (by omega) (by omega) g0 g1 hn hm hv hnl (hns.below (Nat.le_refl _) hb) (hvs.below (Nat.le_refl _) hb))
  have C3 := hid (fun (k : Nat) w1 v (hk : k < 64) (hb : Below w.heap.size w w1) (hsl : Sl w1 v 1 (makeH (k : Int) flags ns vs).2.2.length (u64Cells (makeH (k : Int) flags ns vs).2.2)) => rpduWrite_any (k : Int) now flags v (makeH (k : Int) flags ns vs).2.2 (.slice none 0 0) 0 noAhs d mode w1 (made_in hk g0 g1 hv hd hsl) m0 m1 (hg.below hb) (hT.below hb (Nat.le_refl _)) (hP.below hb (Nat.le_refl _)))
  have HR := hid (fun (r : HR) (hr : r ∈ headRows) => madeP_kind hr now flags ns vs d mode)
  have HN := hid (fun (h : ∀ x ∈ headRows.take 18, x.name ≠ name) => madeP_no h now flags ns vs d mode)
  obtain ⟨na, nc, rfl, _⟩ := hns
  obtain ⟨va, vc, rfl, _⟩ := hvs
  clear hn hm hv hnl hd hg hT hP m0 m1 g0 g1
  unfold KindsPost at ck
  have b0 := (Below.refl w.heap.size w).alloc (Nat.le_refl _) (.cells #[.int .i64 0, .int .i64 0] 24)
  have F0 := Blk.new w 24 #[.int .i64 0, .int .i64 0]
  go_enter Tryz.func31, Tryz.ntmps31
  go_wp2_with (go_at_call 82; refine (ck _).out.mono ?_; rintro e w1 ⟨v, rfl, ⟨g, ss, rfl, hg, hss, hfs, hB⟩, hb1⟩)
  have HFS := hid hfs; have HBB := hid hB
  have F1 := hid (F0.below hb1)
  have bb1 := b0.trans (hb1.mono b0.size)
  clear hfs hB F0 b0 hb1 ck
  go_loopw [24] (fun i wr => RMadeR name w1 i wr) (fun i _ => 18 - (intOf i).toNat)
  case atStart => exact ⟨0, by omega, rfl, by simp, Below.refl _ _⟩
  case round =>
    obtain ⟨k, hk, rfl, hno, hb⟩ := hrel
    have hB := hb.size
    have bbr := bb1.trans (hb.mono bb1.size)
    have F2 := F1.out.below hb
    by_cases hlt : k < 18
    · obtain ⟨r, hr⟩ : ∃ r, headRows[k]? = some r := ⟨headRows[k]'(by show k < 18; exact hlt), List.getElem?_eq_getElem _⟩
      obtain ⟨s, hs⟩ : ∃ s, ss[k]? = some s := ⟨ss[k]'(by omega), List.getElem?_eq_getElem _⟩
      have hcell : ∀ j, j < 4 → wr.cell? ⟨g, k * 4 + j, none⟩ = [Value.int .i64 (r.op : Int), .string (bs r.name), .int .i64 (r.flags : Int), s][j]? := fun j hj => by
        rw [(hb.cell (p := ⟨g, k * 4 + j, none⟩) HBB.out.lt), HBB.out.cell, List.getElem?_toArray]
        exact zip4 headRows ss (by rw [hss]; rfl) k r s hr hs j hj
      have a0 : wr.cell? ⟨g, k * 4, none⟩ = some (.int .i64 (r.op : Int)) := hcell 0 (by omega)
      have a1 : wr.cell? ⟨g, k * 4 + 1, none⟩ = some (.string (bs r.name)) := hcell 1 (by omega)
      have a2 : wr.cell? ⟨g, k * 4 + 2, none⟩ = some (.int .i64 (r.flags : Int)) := hcell 2 (by omega)
      have a3 : wr.cell? ⟨g, k * 4 + 3, none⟩ = some s := hcell 3 (by omega)
      have hfs := (HFS.out k r s hr hs)
      obtain ⟨g2, hsv, hg2, hB2⟩ := id hfs
      have hmem := List.mem_of_getElem? hr
      have hop : r.op < 64 := (head_fine r hmem).2.2.2.2.1
      by_cases hname : r.name = name
      · subst hname
        have hRR := HR.out _ hmem
        have hll : (r.name == r.name) = true := by simp
        have HRR := hid hRR
        clear hcell hr hs hno hfs hRR HR HN hmem hB2 hg2
        subst hsv
        have bk := bbr.alloc bbr.size (.cells #[.int .i64 (r.op : Int), .string (bs r.name), .int .i64 (r.flags : Int), .slice (some ⟨g2, 0, none⟩) r.fields.length r.fields.length] 143)
        have qk := (Below.refl wr.heap.size wr).alloc (Nat.le_refl _) (.cells #[.int .i64 (r.op : Int), .string (bs r.name), .int .i64 (r.flags : Int), .slice (some ⟨g2, 0, none⟩) r.fields.length r.fields.length] 143)
        have F3 := hid (F2.below qk)
        have c2 := hid (C2.out r.op _ hop bk)
        have c3 := fun w1 v hb h => hid (C3.out r.op w1 v hop hb h)
        unfold MakeRPost faultV at c2
        unfold PduWRPost pduV at c3
        generalize makeH (r.op : Int) flags ns vs = R at *
        obtain ⟨rk, rp, xs⟩ := R
        simp only at *
        unfold faultV at ci
        clear F1 F2 C2 C3
        go_wp2_with fail
        refine c2.out.mono ?_
        rintro e w2 ⟨v2, rfl, hsl, hb2⟩
        have b2 := bk.trans (hb2.mono bk.size)
        have F4 := F3.out.below hb2
        have hwF := F4.lt
        have hwlt : w.heap.size < w2.heap.size := hwF
        have HSL := hid hsl
        obtain ⟨sa, sc, rfl, _⟩ := hsl
        clear a0 a1 a2 a3 c2 F3
        obtain ⟨opv, hopv⟩ : ∃ opv, opv = (if rk = 0 then (r.op : Int) else 0) := ⟨_, rfl⟩
        obtain ⟨flv, hflv⟩ : ∃ flv, flv = (if rk = 0 then flags else 0) := ⟨_, rfl⟩
        rw [← hopv, ← hflv]
        have HOP := hid hopv; have HFL := hid hflv; clear hopv hflv
        have q3 := ((Below.refl w2.heap.size w2).alloc (Nat.le_refl _) (.cells #[.int .i64 opv, .bool false, .int .i64 flv, .slice sa xs.length sc] 52)).alloc (by simp) (.cells #[.int .i64 (rk : Int), .int .i64 rp] 24)
        have b3 := b2.trans (q3.mono b2.size)
        have H3 := (Blk.new w2 52 #[.int .i64 opv, .bool false, .int .i64 flv, .slice sa xs.length sc]).below ((Below.refl _ _).alloc (Nat.le_refl _) (.cells #[.int .i64 (rk : Int), .int .i64 rp] 24))
        have E3 := Blk.new (w2.alloc (.cells #[.int .i64 opv, .bool false, .int .i64 flv, .slice sa xs.length sc] 52)) 24 #[.int .i64 (rk : Int), .int .i64 rp]
        simp only [World.size_alloc] at E3
        have F5 := F4.below q3
        have hsz3 : ((w2.alloc (.cells #[.int .i64 opv, .bool false, .int .i64 flv, .slice sa xs.length sc] 52)).alloc (.cells #[.int .i64 (rk : Int), .int .i64 rp] 24)).heap.size = w2.heap.size + 2 := by simp
        have hb2s := b2.size
        have e0 := (E3.cell 0).trans (rfl : _ = some (Value.int .i64 (rk : Int)))
        have e1 := (E3.cell 1).trans (rfl : _ = some (Value.int .i64 rp))
        unfold headV
        go_wp2_with fail
        refine (ci _ _ _).out.mono ?_
        rintro e w4 ⟨rfl, hb4⟩
        have b4 := b3.trans (hb4.mono b3.size)
        have H4 := H3.below hb4
        have E4 := E3.below hb4
        have F6 := F5.below hb4
        have q4 := q3.trans (hb4.mono q3.size)
        have hs4 : w2.heap.size + 2 ≤ w4.heap.size := by have := hb4.size; omega
        clear F4 F5 E3 H3 e0 e1 ci
        by_cases hrk : rk = 0
        · subst hrk
          have hop' := HOP.out; have hfl' := HFL.out
          rw [if_pos rfl] at hop' hfl'
          have hfl2 := hfl'.symm
          subst hop'
          subst hfl2
          simp only [if_true, ne_eq, not_true_eq_false, if_false] at HRR ⊢
          have b5 := b4.setCell (p := ⟨w2.heap.size, 1, none⟩) hb2s (.bool now)
          have c3 := c3 _ _ b5 (HSL.out.below (Nat.le_refl _) (q4.setCell (p := ⟨w2.heap.size, 1, none⟩) (Nat.le_refl _) (.bool now)))
          have H5 := H4.set 1 (.bool now)
          have t0 := (H5.cell 0).trans (rfl : _ = some (Value.int .i64 (r.op : Int)))
          have t1 := (H5.cell 1).trans (rfl : _ = some (Value.bool now))
          have t2 := (H5.cell 2).trans (rfl : _ = some (Value.int .i64 flags))
          have t3 := (H5.cell 3).trans (rfl : _ = some (Value.slice sa xs.length sc))
          have u0 := (H4.cell 1).trans (rfl : _ = some (Value.bool false))
          have u1 := H4.free 1
          have F7 := (F6.below ((Below.refl w4.heap.size w4))).far (p := ⟨w2.heap.size, 1, none⟩) (Nat.ne_of_lt hwlt) (.bool now)
          clear F6 H4 E4 H5
          go_wp2_with fail
          refine c3.out.mono ?_
          rintro e w6 ⟨rfl, hb6⟩
          have b6 := b5.trans (hb6.mono b5.size)
          have F8 := F7.below hb6
          clear t0 t1 t2 t3 u0 u1 c3 F7
          go_wp2_with fail
          refine (cb _ _).out.mono ?_
          rintro e w7 ⟨rfl, hb7⟩
          have b7 := b6.trans (hb7.mono b6.size)
          have F9 := F8.below hb7
          have f0 := (F9.cell 0).trans (rfl : _ = some (Value.int .i64 0))
          have f1 := (F9.cell 1).trans (rfl : _ = some (Value.int .i64 0))
          have g0 := F9.free 0
          have g1 := F9.free 1
          clear F8 F9
          go_wp2
          refine bodyPost_ret (v := .tuple #[.string (bs (pduW (r.op : Int) now flags xs 0 noAhs d mode).1), .agg #[.int .i64 ((pduW (r.op : Int) now flags xs 0 noAhs d mode).2 : Nat), .int .i64 (-1)]]) (by simp [results, Tryz.results31, go_sem, f0, f1]) rfl ?_
          rw [HRR.out]
          exact ⟨rfl, (b7.setCell (p := ⟨w.heap.size, 0, none⟩) (Nat.le_refl _) _).setCell (p := ⟨w.heap.size, 1, none⟩) (Nat.le_refl _) _⟩
        · have hd0 : decide (rk = 0) = false := decide_eq_false hrk
          simp only [if_neg hrk, ne_eq, hrk, not_false_eq_true, if_true] at HRR ⊢
          have e0 := (E4.cell 0).trans (rfl : _ = some (Value.int .i64 (rk : Int)))
          have e1 := (E4.cell 1).trans (rfl : _ = some (Value.int .i64 rp))
          have f0 := (F6.cell 0).trans (rfl : _ = some (Value.int .i64 0))
          have f1 := (F6.cell 1).trans (rfl : _ = some (Value.int .i64 0))
          have g0 := F6.free 0
          have g1 := F6.free 1
          clear c3
          go_wp2
          go_still_tail 2, (by kernel_rfl)
          change wpList _ _ _ _ _ w4.drew
          go_wp2
          refine bodyPost_ret (v := .tuple #[.string ⟨#[]⟩, .agg #[.int .i64 (rk : Int), .int .i64 rp]]) (by simp [results, Tryz.results31, go_sem, f0, f1]) rfl ?_
          rw [HRR.out]
          exact ⟨rfl, ((b4.drew).setCell (p := ⟨w.heap.size, 0, none⟩) (Nat.le_refl _) _).setCell (p := ⟨w.heap.size, 1, none⟩) (Nat.le_refl _) _⟩
      · have HS := hid (take_name hr hno hname)
        have hll : (r.name == name) = false := by simpa using hname
        clear hcell hr hs hno hfs hname HR HN hmem hB2 hg2 F2
        subst hsv
        go_wp2
        go_roundw
        case rel => exact ⟨k + 1, by omega, by go_num, HS.out, hb.alloc hB _⟩
        case measure => simp [intOf]; omega
    · obtain rfl : k = 18 := by omega
      have hfin := HN.out hno
      have HFIN := hid hfin
      clear hfin HR HN C2 C3 hno
      go_wp2_with fail
      refine (cb _ _).out.mono ?_
      rintro e w4 ⟨rfl, hb4⟩
      have b4 := bbr.trans (hb4.mono bbr.size)
      have F6 := F2.below hb4
      have f0 := (F6.cell 0).trans (rfl : _ = some (Value.int .i64 0))
      have f1 := (F6.cell 1).trans (rfl : _ = some (Value.int .i64 0))
      have g0 := F6.free 0
      have g1 := F6.free 1
      clear F2 F6
      go_wp2
      refine bodyPost_ret (v := .tuple #[.string ⟨#[]⟩, .agg #[.int .i64 5, .int .i64 (-1)]]) (by simp [results, Tryz.results31, go_sem, f0, f1]) rfl ?_
      rw [HFIN.out]
      exact ⟨rfl, (b4.setCell (p := ⟨w.heap.size, 0, none⟩) (Nat.le_refl _) _).setCell (p := ⟨w.heap.size, 1, none⟩) (Nat.le_refl _) _⟩
end
end Go.Proofs.YtejbigoacknfoaaGreatDoor
