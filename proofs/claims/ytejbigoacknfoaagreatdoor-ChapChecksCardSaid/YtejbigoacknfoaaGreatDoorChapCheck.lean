/- Whether a value is a user's response: by the program and by the document. -/
import Derived.Test.YtejbigoacknfoaaGreatDoorChap
import Derived.Test.YtejbigoacknfoaaGreatDoorChapFind
import Derived.Test.YtejbigoacknfoaaGreatDoorBinRd
import Derived.Test.YtejbigoacknfoaaGreatDoorBinRdR
import Derived.Test.YtejbigoacknfoaaGreatDoorFaultIs
set_option linter.unusedSectionVars false
set_option linter.unusedSimpArgs false
set_option linter.unusedVariables false
namespace Go.Proofs.YtejbigoacknfoaaGreatDoor
open Go Go.RowKit
set_option linter.unusedVariables false
set_option linter.unusedSectionVars false
set_option linter.unusedSimpArgs false
set_option maxRecDepth 100000
/-- what is wrong with a value -/
def judgeP (r : List UInt8 × Nat × Int) (q : List UInt8 × Nat) : Nat := if r.2.1 ≠ 0 then r.2.1 else if q.2 ≠ 0 then q.2 else if r.1 = q.1 then 0 else 13
def checkP (l : PL) (name value : List UInt8) (id : Int) (ch : List UInt8) : Nat :=
  if posU l name < l.length then judgeP (binP value) (respP id (l.getD (posU l name) ([], [])).2 ch) else 8
def drawV (id : Int) (ch : List UInt8) : Value := .agg #[.int .i64 id, .string (bs ch)]
theorem errIs_zero {w : World} {v : Value} {pl : Int} (h : ErrIs w v 0 pl) : v = .nilIface := by
  cases h with
  | nil => rfl
  | bare k h => omega
  | at_ k h => omega
theorem errIs_pos {w : World} {v : Value} {k : Nat} {pl : Int} (h : ErrIs w v k pl) (hk : k ≠ 0) : ∃ T x, v = .iface T x := by
  cases h with
  | nil => exact absurd rfl hk
  | bare k h => exact ⟨_, _, rfl⟩
  | at_ k h => exact ⟨_, _, rfl⟩
section
variable (v : Value) (l : PL) (name value : List UInt8) (id : Int) (ch : List UInt8) (w : World)
set_option maxHeartbeats 4000000 in
theorem check_any (h : PSl w v l) (hn : l.length ≤ 9223372036854775807) (hsec : ∀ k, (l.getD k ([], [])).2.length ≤ 300) (hval : value.length ≤ 1000) (hch : ch.length ≤ 1000) (hg : EType w) :
    Calls Tryz.prog 23 #[v, .string (bs name), .string (bs value), drawV id ch] w fun e w' => e = .returned (errV 22 (checkP l name value id ch)) ∧ Below w.heap.size w w' := by
  have hA := (Below.refl w.heap.size w).alloc (Nat.le_refl _) (.cells #[.int .i64 id, .string (bs ch)] 36)
  have cf := fun w1 (hb : Below w.heap.size w w1) => hid (findU_any v l name w1 (h.below hb) hn)
  have cr := fun w1 => hid (read_any value w1 hval)
  have ct := fun x k pl w1 (hb : Below w.heap.size w w1) (hv : ErrIs w1 x k pl) => hid (tell_any x k pl w1 (hg.below hb) hv)
  have cq := fun w1 => hid (resp_any id (l.getD (posU l name) ([], [])).2 ch w1 (Nat.le_trans (hsec _) (by omega)) (by omega))
  have HC := hid (show checkP l name value id ch = if posU l name < l.length then judgeP (binP value) (respP id (l.getD (posU l name) ([], [])).2 ch) else 8 from rfl)
  unfold foundU at cf
  unfold BinPost at cr
  unfold drawV
  clear h hsec hg
  by_cases hf : posU l name < l.length
  · rw [if_pos hf] at HC
    simp only [if_pos hf] at cf
    have HC := hid HC
    generalize l.getD (posU l name) ([], []) = u at *
    obtain ⟨u1, u2⟩ := u
    simp only at *
    unfold userV at cf
    generalize binP value = r at *
    generalize respP id u2 ch = q at *
    obtain ⟨r1, rk, rp⟩ := r
    obtain ⟨q1, qk⟩ := q
    simp only at *
    unfold judgeP at HC
    simp only at HC
    have hu1 := u1
    clear hu1
    go_enter Tryz.func23, Tryz.ntmps23
    go_wp2_with fail
    refine (cf _ hA).out.mono ?_
    rintro e w1 ⟨rfl, hb1⟩
    have b1 := hA.trans (hb1.mono hA.size)
    have d0 := (hb1.cell (p := ⟨w.heap.size, 0, none⟩) (by simp)).trans (show _ = some (.int .i64 id) by simp)
    have d1 := (hb1.cell (p := ⟨w.heap.size, 1, none⟩) (by simp)).trans (show _ = some (.string (bs ch)) by simp)
    have hlt1 : w.heap.size < w1.heap.size := by have := hb1.size; simp at this; omega
    have bA := b1.alloc b1.size (.cells #[.string (bs u1), .string (bs u2)] 38)
    go_wp2_with fail
    refine (cr _).out.mono ?_
    rintro e w2 ⟨⟨ev, rfl, hev⟩, hb2⟩
    have b2 := bA.trans (hb2.mono bA.size)
    by_cases hk : rk = 0
    · subst hk
      obtain rfl := errIs_zero hev
      have hs2 := hb2.size
      have d0 := (hb2.cell (p := ⟨w.heap.size, 0, none⟩) (by simp; omega)).trans ((((Below.refl w1.heap.size w1).alloc (Nat.le_refl _) _).cell (p := ⟨w.heap.size, 0, none⟩) hlt1).trans d0)
      have d1 := (hb2.cell (p := ⟨w.heap.size, 1, none⟩) (by simp; omega)).trans ((((Below.refl w1.heap.size w1).alloc (Nat.le_refl _) _).cell (p := ⟨w.heap.size, 1, none⟩) hlt1).trans d1)
      have u1c := (hb2.cell (p := ⟨w1.heap.size, 1, none⟩) (by simp)).trans (show _ = some (.string (bs u2)) by simp)
      go_wp2_with fail
      refine (cq _).out.mono ?_
      rintro e w3 ⟨rfl, hb3⟩
      have b3 := b2.trans (hb3.mono b2.size)
      by_cases hq : qk = 0
      · subst hq
        rw [errV_zero]
        by_cases he : r1 = q1
        · have hee : (r1 == q1) = true := beq_iff_eq.2 he
          have HE := hid (show checkP l name value id ch = 0 by rw [HC.out]; simp [he])
          clear he
          go_wp2
          go_ret
          rw [HE.out]
          exact ⟨rfl, b3⟩
        · have hee : (r1 == q1) = false := beq_eq_false_iff_ne.2 he
          have HE := hid (show checkP l name value id ch = 13 by rw [HC.out]; simp [he])
          clear he
          go_wp2
          go_ret
          rw [HE.out]
          exact ⟨rfl, b3⟩
      · have HE := hid (show checkP l name value id ch = qk by rw [HC.out]; simp [hq])
        have hqp : 0 < qk := by omega
        rw [errV_pos _ _ hqp]
        clear hq
        go_wp2
        go_ret
        rw [HE.out, errV_pos _ _ hqp]
        exact ⟨rfl, b3⟩
    · obtain ⟨T, x, hx⟩ := errIs_pos hev hk
      have hrp : 0 < rk := by omega
      have HE := hid (show checkP l name value id ch = rk by rw [HC.out]; simp [hk])
      have ct1 := ct ev rk rp _ b2 hev
      rw [hx] at ct1
      rw [hx]
      clear hk
      go_wp2_with fail
      refine ct1.out.mono ?_
      rintro e w3 ⟨rfl, hb3⟩
      go_wp2
      go_ret
      rw [HE.out, errV_pos _ _ hrp]
      exact ⟨rfl, b2.trans (hb3.mono b2.size)⟩
  · rw [if_neg hf] at HC
    simp only [if_neg hf] at cf
    have HE := hid (show checkP l name value id ch = 8 from HC.out)
    unfold userV at cf
    clear HC hf
    go_enter Tryz.func23, Tryz.ntmps23
    go_wp2_with fail
    refine (cf _ hA).out.mono ?_
    rintro e w1 ⟨rfl, hb1⟩
    have b1 := hA.trans (hb1.mono hA.size)
    go_wp2
    go_ret
    rw [HE.out]
    exact ⟨rfl, b1.alloc b1.size _⟩
set_option maxHeartbeats 8000000 in
theorem rcheck_any (h : PSl w v l) (hn : l.length ≤ 9223372036854775807) (hsec : ∀ k, (l.getD k ([], [])).2.length ≤ 300) (hval : value.length ≤ 1000) (hch : ch.length ≤ 1000) (hD : DT w) (hL : LT w) :
    Calls Tryz.prog 24 #[v, .string (bs name), .string (bs value), drawV id ch] w fun e w' => e = .returned (.int .i64 (checkP l name value id ch : Nat)) ∧ Below w.heap.size w w' := by
  have hA := (Below.refl w.heap.size w).alloc (Nat.le_refl _) (.cells #[.int .i64 id, .string (bs ch)] 36)
  unfold drawV
  rcases h.open_ with ⟨rfl, a, c, rfl⟩ | ⟨h0, b, o, c, rfl, hbl, hcell⟩
  · clear h hD hL hsec
    go_enter Tryz.func24, Tryz.ntmps24
    go_wp2
    refine wp_loop_rounds 1 ?_
    rw [rounds_succ]
    go_wp2
    go_ret
    exact ⟨rfl, hA⟩
  clear h
  have Hcell := hid hcell; clear hcell
  have HA := hid hA
  have hD0 : w.heap.size < (w.alloc (.cells #[.int .i64 id, .string (bs ch)] 36)).heap.size := by simp
  have e0 : (w.alloc (.cells #[.int .i64 id, .string (bs ch)] 36)).cell? ⟨w.heap.size, 0, none⟩ = some (.int .i64 id) := by simp
  have e1 : (w.alloc (.cells #[.int .i64 id, .string (bs ch)] 36)).cell? ⟨w.heap.size, 1, none⟩ = some (.string (bs ch)) := by simp
  have E0 := hid e0; have E1 := hid e1
  have HDW := hid (show ∀ w1, Below w.heap.size w w1 → DT w1 ∧ LT w1 from fun w1 h => ⟨hD.below h, hL.below h⟩)
  clear hA e0 e1 hD hL
  go_enter Tryz.func24, Tryz.ntmps24
  go_wp2
  go_loopw [17] (fun i wr => RUsr l name (w.alloc (.cells #[.int .i64 id, .string (bs ch)] 36)) i wr) (fun i _ => l.length - (intOf i).toNat)
  case atStart => exact ⟨0, by omega, rfl, hid (notAhead_zero l name), Below.refl _ _⟩
  case round =>
    obtain ⟨k, hk, rfl, HN, hb⟩ := hrel
    have hB := hb.size
    have hp : w.heap.size < wr.heap.size := by omega
    have hb' := HA.out.trans (hb.mono HA.out.size)
    have d0 := (hb.cell (p := ⟨w.heap.size, 0, none⟩) hD0).trans E0.out
    have d1 := (hb.cell (p := ⟨w.heap.size, 1, none⟩) hD0).trans E1.out
    by_cases hlt : k < l.length
    · obtain ⟨c0, c1⟩ := Hcell.out k hlt
      have g0 := (hb'.cell (p := ⟨b, o + k * 2, none⟩) hbl).trans c0
      have g1 := (hb'.cell (p := ⟨b, o + k * 2 + 1, none⟩) hbl).trans c1
      by_cases hkey : (l.getD k ([], [])).1 = name
      · have HC := hid (show checkP l name value id ch = judgeP (binP value) (respP id (l.getD k ([], [])).2 ch) by
          unfold checkP
          rw [posU_at l name k hlt hkey HN.out, if_pos hlt])
        have cq := fun w1 => hid (rresp_any id (l.getD k ([], [])).2 ch w1 (Nat.le_trans (hsec _) (by omega)) (by omega))
        have cr := fun w1 (h : Below w.heap.size w w1) => hid (rbinary_any value w1 hval (HDW.out _ h).1 (HDW.out _ h).2)
        unfold BinRPost faultV at cr
        clear c0 c1 hsec
        generalize l.getD k ([], []) = x at *
        obtain ⟨x1, x2⟩ := x
        simp only at *
        have hne : (x1 != name) = false := by rw [hkey]; simp
        have hne2 : (x1 == name) = true := beq_iff_eq.2 hkey
        clear hkey
        generalize binP value = r at *
        generalize respP id x2 ch = q at *
        obtain ⟨r1, rk, rp⟩ := r
        obtain ⟨q1, qk⟩ := q
        simp only at *
        unfold judgeP at HC
        simp only at HC
        have bA := hb'.alloc hb'.size (.cells #[.string (bs x1), .string (bs x2)] 38)
        go_wp2_with fail
        refine (cr _ bA).out.mono ?_
        rintro e w2 ⟨rfl, hb2⟩
        have b2 := bA.trans (hb2.mono bA.size)
        have hs2 := hb2.size
        have d0 := (hb2.cell (p := ⟨w.heap.size, 0, none⟩) (by simp; omega)).trans ((((Below.refl wr.heap.size wr).alloc (Nat.le_refl _) _).cell (p := ⟨w.heap.size, 0, none⟩) hp).trans d0)
        have d1 := (hb2.cell (p := ⟨w.heap.size, 1, none⟩) (by simp; omega)).trans ((((Below.refl wr.heap.size wr).alloc (Nat.le_refl _) _).cell (p := ⟨w.heap.size, 1, none⟩) hp).trans d1)
        have u1c := (hb2.cell (p := ⟨wr.heap.size, 1, none⟩) (by simp)).trans (show _ = some (.string (bs x2)) by simp)
        have hl2 : w.heap.size < w2.heap.size := by simp at hs2; omega
        have hl3 : wr.heap.size < w2.heap.size := by simp at hs2; omega
        have bF := b2.alloc b2.size (.cells #[.int .i64 (rk : Nat), .int .i64 rp] 24)
        have al := fun a (ha : a.block < w2.heap.size) => ((Below.refl w2.heap.size w2).alloc (Nat.le_refl _) (.cells #[.int .i64 (rk : Nat), .int .i64 rp] 24)).cell (p := a) ha
        have d0 := (al ⟨w.heap.size, 0, none⟩ hl2).trans d0
        have d1 := (al ⟨w.heap.size, 1, none⟩ hl2).trans d1
        have u1c := (al ⟨wr.heap.size, 1, none⟩ hl3).trans u1c
        have f0 : (w2.alloc (.cells #[.int .i64 (rk : Nat), .int .i64 rp] 24)).cell? ⟨w2.heap.size, 0, none⟩ = some (.int .i64 (rk : Nat)) := by simp
        clear al
        have cis := fun w1 => hid (faultIs_any rk rp w1)
        unfold faultV at cis
        go_wp2_with fail
        refine (cis _).out.mono ?_
        rintro e w3 ⟨rfl, hb3⟩
        have b3 := bF.trans (hb3.mono bF.size)
        have d0 := (hb3.cell (p := ⟨w.heap.size, 0, none⟩) (by simp; omega)).trans d0
        have d1 := (hb3.cell (p := ⟨w.heap.size, 1, none⟩) (by simp; omega)).trans d1
        have u1c := (hb3.cell (p := ⟨wr.heap.size, 1, none⟩) (by simp; omega)).trans u1c
        have f0 := (hb3.cell (p := ⟨w2.heap.size, 0, none⟩) (by simp)).trans f0
        by_cases hk0 : rk = 0
        · have hdk : decide (rk = 0) = true := decide_eq_true hk0
          have hqq := hk0
          clear hqq
          rw [hdk]
          go_wp2_with fail
          refine (cq _).out.mono ?_
          rintro e w4 ⟨rfl, hb4⟩
          have b4 := b3.trans (hb4.mono b3.size)
          by_cases hq : qk = 0
          · have hqi : ((qk : Int) == 0) = true := by simp [hq]
            by_cases he : r1 = q1
            · have hee : (r1 == q1) = true := beq_iff_eq.2 he
              have HE := hid (show checkP l name value id ch = 0 by rw [HC.out]; simp [hk0, hq, he])
              have HQ := hid hq
              clear he hq hk0 hdk
              go_wp2
              go_ret
              rw [HE.out]
              exact ⟨by rw [HQ.out]; rfl, b4⟩
            · have hee : (r1 == q1) = false := beq_eq_false_iff_ne.2 he
              have HE := hid (show checkP l name value id ch = 13 by rw [HC.out]; simp [hk0, hq, he])
              clear he hq hk0 hdk
              go_wp2
              go_ret
              rw [HE.out]
              exact ⟨rfl, b4⟩
          · have hqi : ((qk : Int) == 0) = false := by simp; omega
            have HE := hid (show checkP l name value id ch = qk by rw [HC.out]; simp [hk0, hq])
            clear hq hk0 hdk
            go_wp2
            go_ret
            rw [HE.out]
            exact ⟨rfl, b4⟩
        · have hdk : decide (rk = 0) = false := decide_eq_false hk0
          have HE := hid (show checkP l name value id ch = rk by rw [HC.out]; simp [hk0])
          rw [hdk]
          clear hk0 hdk
          go_wp2
          go_ret
          rw [HE.out]
          exact ⟨rfl, b3⟩
      · have hne : ((l.getD k ([], [])).1 != name) = true := by simpa using hkey
        have hne2 : ((l.getD k ([], [])).1 == name) = false := beq_eq_false_iff_ne.2 hkey
        have HS := hid (HN.out.step hkey)
        clear c0 c1 hkey
        generalize l.getD k ([], []) = x at *
        obtain ⟨x1, x2⟩ := x
        simp only at *
        go_wp2
        refine ⟨⟨k + 1, by omega, by go_num, hid HS.out, hb.alloc hB _⟩, by simp [intOf]; omega⟩
    · obtain rfl : k = l.length := by omega
      have HE := hid (show checkP l name value id ch = 8 by unfold checkP; rw [posU_none l name HN.out, if_neg (by omega)])
      go_wp2
      go_ret
      rw [HE.out]
      exact ⟨rfl, hb'⟩
end
end Go.Proofs.YtejbigoacknfoaaGreatDoor
