/- engine.Made: by the program. -/
import Derived.Test.YtejbigoacknfoaaGreatDoorMadePure
import Derived.Test.YtejbigoacknfoaaGreatDoorHeadFns
import Derived.Test.YtejbigoacknfoaaGreatDoorHeadMk
import Derived.Test.YtejbigoacknfoaaGreatDoorPduWr
set_option linter.unusedSectionVars false
set_option linter.unusedSimpArgs false
set_option linter.unusedVariables false
namespace Go.Proofs.YtejbigoacknfoaaGreatDoor
open Go Go.RowKit
set_option linter.unusedVariables false
set_option linter.unusedSectionVars false
set_option linter.unusedSimpArgs false
set_option maxRecDepth 100000
def MadePost (R : List UInt8 × Nat × Int) (w : World) (e : Ending) (w' : World) : Prop :=
  ∃ ev, e = .returned (.tuple #[.string (bs R.1), ev]) ∧ ErrIs w' ev R.2.1 R.2.2 ∧ Below w.heap.size w w'
def RMade (name : List UInt8) (w : World) (i : Value) (wr : World) : Prop :=
  ∃ k : Nat, k ≤ 64 ∧ i = .int .i64 (k : Nat) ∧ noName name k ∧ Below w.heap.size w wr
theorem made_in {w : World} {k : Nat} (hk : k < 64) {flags : Int} (g0 : -9223372036854775808 ≤ flags) (g1 : flags ≤ 9223372036854775807) {v : Value} {ns : List (List UInt8)} {vs : List Nat} (hv : ∀ x ∈ vs, x ≤ 18446744073709551615) {d : List UInt8} (hd : d.length ≤ 2000)
    (h : Sl w v 1 (makeH (k : Int) flags ns vs).2.2.length (u64Cells (makeH (k : Int) flags ns vs).2.2)) : PduIn w (k : Int) flags v (makeH (k : Int) flags ns vs).2.2 (.slice none 0 0) 0 noAhs d := by
  obtain ⟨h1, h2⟩ := makeH_fits (k : Int) flags ns vs hv
  exact ⟨by omega, by omega, g0, g1, by omega, h1, h, ⟨by unfold maxLen; omega, .inl ⟨rfl, rfl⟩, fun a m cap e => by cases e⟩, by omega⟩
theorem madeP_row {k : Nat} {r : HR} (hr : findH (k : Int) = some r) (now : Bool) (flags : Int) (ns : List (List UInt8)) (vs : List Nat) (d : List UInt8) (mode : Int) :
    madeP r.name now flags ns vs d mode = if (makeH (k : Int) flags ns vs).1 ≠ 0 then ([], (makeH (k : Int) flags ns vs).1, (makeH (k : Int) flags ns vs).2.1)
      else ((pduW (k : Int) now flags (makeH (k : Int) flags ns vs).2.2 0 noAhs d mode).1, (pduW (k : Int) now flags (makeH (k : Int) flags ns vs).2.2 0 noAhs d mode).2, -1) := by
  unfold madeP
  rw [kindN_hit hr rfl]
  simp only [findH_op hr]
theorem madeP_none {name : List UInt8} (h : noName name 64) (now : Bool) (flags : Int) (ns : List (List UInt8)) (vs : List Nat) (d : List UInt8) (mode : Int) :
    madeP name now flags ns vs d mode = ([], 5, -1) := by
  unfold madeP
  rw [kindN_none h]
section
variable (name : List UInt8) (now : Bool) (flags : Int) (nv vv : Value) (ns : List (List UInt8)) (vs : List Nat) (d : List UInt8) (mode : Int) (w : World) (g0 : -9223372036854775808 ≤ flags) (g1 : flags ≤ 9223372036854775807)
  (hn : ns.length ≤ 60) (hm : vs.length ≤ 60) (hv : ∀ x ∈ vs, x ≤ 18446744073709551615) (hns : Sl w nv 1 ns.length (strCells ns)) (hvs : Sl w vv 1 vs.length (u64Cells vs)) (hd : d.length ≤ 2000) (m0 : -9223372036854775808 ≤ mode) (m1 : mode ≤ 9223372036854775807) (hg : EType w) (hT : AS w) (hP : PT w)
include g0 g1 hn hm hv hns hvs hd m0 m1 hg hT hP
set_option maxHeartbeats 8000000 in
theorem made_any : Calls Tryz.prog 32 #[.string (bs name), .bool now, .int .i64 flags, nv, vv, .string (bs d), .int .i64 mode] w fun e w' => MadePost (madeP name now flags ns vs d mode) w e w' := by
  have C1 := hid (fun (k : Nat) w1 (hk : k < 64) (hb : Below w.heap.size w w1) => hname_any (k : Int) (by omega) (by omega) w1 (hT.below hb (Nat.le_refl _)) (hP.below hb (Nat.le_refl _)))
  have C2 := hid (fun (k : Nat) w1 (hk : k < 64) (hb : Below w.heap.size w w1) => make_any (k : Int) flags nv vv ns vs w1 (by omega) (by omega) g0 g1 hn hm hv (hns.below (Nat.le_refl _) hb) (hvs.below (Nat.le_refl _) hb) (hT.below hb (Nat.le_refl _)) (hP.below hb (Nat.le_refl _)))
  have C3 := hid (fun (k : Nat) w1 v (hk : k < 64) (hb : Below w.heap.size w w1) (hsl : Sl w1 v 1 (makeH (k : Int) flags ns vs).2.2.length (u64Cells (makeH (k : Int) flags ns vs).2.2)) => pduWrite_any (k : Int) now flags v (makeH (k : Int) flags ns vs).2.2 (.slice none 0 0) 0 noAhs d mode w1 (made_in hk g0 g1 hv hd hsl) m0 m1 (hg.below hb) (hT.below hb (Nat.le_refl _)) (hP.below hb (Nat.le_refl _)))
  have HR := hid (fun (k : Nat) (r : HR) (hr : findH (k : Int) = some r) => madeP_row hr now flags ns vs d mode)
  have HN := hid (fun (h : noName name 64) => madeP_none h now flags ns vs d mode)
  obtain ⟨na, nc, rfl, _⟩ := hns
  obtain ⟨va, vc, rfl, _⟩ := hvs
  clear hn hm hv hd hg hT hP m0 m1 g0 g1
  go_enter Tryz.func32, Tryz.ntmps32
  go_wp2
  go_loopw [20] (fun i wr => RMade name w i wr) (fun i _ => 64 - (intOf i).toNat)
  case atStart => exact ⟨0, by omega, rfl, noName_zero name, Below.refl _ _⟩
  case round =>
    obtain ⟨k, hk, rfl, hno, hb⟩ := hrel
    have HNO := hid hno; clear hno
    by_cases hlt : k < 64
    · have c1 := hid (C1.out k wr hlt hb)
      have hki : (k : Int) < 64 := by omega
      cases hf : findH (k : Int) with
      | none =>
        have HS := hid (noName_step HNO.out (fun r hr => by rw [hf] at hr; cases hr))
        rw [hf] at c1
        simp only [HErr, hE, hName, errV] at c1
        go_wp2_with fail
        refine c1.out.mono ?_
        rintro e w1 ⟨rfl, hb1⟩
        have b1 := hb.trans (hb1.mono hb.size)
        go_wp2
        go_roundw
        case rel => exact ⟨k + 1, by omega, by go_num, HS.out, b1⟩
        case measure => simp [intOf]; omega
      | some r =>
        rw [hf] at c1
        simp only [HErr, hE, hName, errV] at c1
        by_cases hname : r.name = name
        · subst hname
          have hRR := HR.out _ _ hf
          have c2 := fun w1 hb => hid (C2.out k w1 hlt hb)
          have c3 := fun w1 v hb h => hid (C3.out k w1 v hlt hb h)
          have hll : (r.name == r.name) = true := by simp
          have HRR := hid hRR
          clear hRR HR HN C1 C2 C3 hf HNO
          unfold MakePost at c2
          unfold PduWPost pduV at c3
          generalize makeH (k : Int) flags ns vs = R at *
          obtain ⟨rk, rp, xs⟩ := R
          simp only at *
          go_wp2_with fail
          refine c1.out.mono ?_
          rintro e w1 ⟨rfl, hb1⟩
          have b1 := hb.trans (hb1.mono hb.size)
          go_wp2_with fail
          refine (c2 _ b1).out.mono ?_
          rintro e w2 ⟨v, ev, rfl, her, hsl, hb2⟩
          have b2 := b1.trans (hb2.mono b1.size)
          have HSL := hid hsl; have HER := hid her
          obtain ⟨sa, sc, rfl, _⟩ := hsl
          by_cases hrk : rk = 0
          · subst hrk
            have hev : ev = .nilIface := by cases her with
              | nil => rfl
              | bare k h => omega
              | at_ k h => omega
            subst hev
            simp only [if_true, ne_eq, not_true_eq_false, if_false] at HRR
            have B3 := Blk.new w2 52 #[.int .i64 (k : Int), .bool now, .int .i64 flags, .slice sa xs.length sc]
            have b3 := b2.alloc b2.size (.cells #[.int .i64 (k : Int), .bool now, .int .i64 flags, .slice sa xs.length sc] 52)
            have q3 := (Below.refl w2.heap.size w2).alloc (Nat.le_refl _) (.cells #[.int .i64 (k : Int), .bool now, .int .i64 flags, .slice sa xs.length sc] 52)
            have c3 := c3 _ _ b3 (HSL.out.below (Nat.le_refl _) q3)
            have t0 := (B3.cell 0).trans (rfl : _ = some (Value.int .i64 (k : Int)))
            have t1 := (B3.cell 1).trans (rfl : _ = some (Value.bool now))
            have t2 := (B3.cell 2).trans (rfl : _ = some (Value.int .i64 flags))
            have t3 := (B3.cell 3).trans (rfl : _ = some (Value.slice sa xs.length sc))
            clear c1 c2 her
            unfold headV
            go_wp2_with fail
            refine c3.out.mono ?_
            rintro e w4 ⟨rfl, hb4⟩
            go_wp2
            go_ret2
            rw [HRR.out]
            exact ⟨_, rfl, ErrIs.errV _ _, b3.trans (hb4.mono b3.size)⟩
          · simp only [if_neg hrk, ne_eq, hrk, not_false_eq_true, if_true] at HRR
            have hev : ∃ T x, ev = .iface T x := by cases her with
              | nil => exact absurd rfl hrk
              | bare k h => exact ⟨_, _, rfl⟩
              | at_ k h => exact ⟨_, _, rfl⟩
            have b3 := b2.alloc b2.size (.cells #[.int .i64 0, .bool false, .int .i64 0, .slice sa xs.length sc] 52)
            have q3 := (Below.refl w2.heap.size w2).alloc (Nat.le_refl _) (.cells #[.int .i64 0, .bool false, .int .i64 0, .slice sa xs.length sc] 52)
            have HER := hid (HER.out.below q3)
            obtain ⟨T, x, rfl⟩ := hev
            clear c1 c2 c3 her
            unfold headV
            go_wp2
            go_ret2
            rw [HRR.out]
            exact ⟨_, rfl, HER.out, b3⟩
        · have HS := hid (noName_step HNO.out (fun r' hr => by rw [hf] at hr; cases hr; exact hname))
          have hll : (r.name == name) = false := by simpa using hname
          clear hname hf
          go_wp2_with fail
          refine c1.out.mono ?_
          rintro e w1 ⟨rfl, hb1⟩
          have b1 := hb.trans (hb1.mono hb.size)
          go_wp2
          go_roundw
          case rel => exact ⟨k + 1, by omega, by go_num, HS.out, b1⟩
          case measure => simp [intOf]; omega
    · obtain rfl : k = 64 := by omega
      have hfin := HN.out HNO.out
      have HFIN := hid hfin
      clear hfin HR HN C1 C2 C3
      go_wp2
      go_ret2
      rw [HFIN.out]
      exact ⟨_, rfl, .bare 5 (by omega), hb⟩
end
end Go.Proofs.YtejbigoacknfoaaGreatDoor
