/- What is said to a head that is refused: the document's Refuse. -/
import Derived.Test.YtbimlijhgeajjaaGreatDoorFullRef
import Derived.Test.YtbimlijhgeajjaaGreatDoorSay
import Derived.Test.YtbimlijhgeajjaaGreatDoorPairKey
import Derived.Deep.QuietTactic
import Derived.BigQuiet
import Derived.Test.YtbimlijhgeajjaaGreatDoorClone
import Derived.Test.YtbimlijhgeajjaaGreatDoorSeen
import Derived.Test.YtbimlijhgeajjaaGreatDoorChecked
set_option linter.unusedSectionVars false
set_option linter.unusedSimpArgs false
set_option linter.unusedVariables false
namespace Go.Proofs.YtbimlijhgeajjaaGreatDoor
open Go Go.RowKit
set_option linter.unusedVariables false
set_option linter.unusedSectionVars false
set_option linter.unusedSimpArgs false
set_option maxRecDepth 100000
def RRefPost (g : Nat) (cs : Int → Array Value) (stat cmd : Int) (h : List UInt8) (reason : Int) (w : World) (e : Ending) (w' : World) : Prop :=
  ∃ v, e = .returned (.tuple #[pduV (if refE reason h = 0 then 63 else 0) false (if refE reason h = 0 then 128 else 0) v (.slice none 0 0) (if refE reason h = 0 then h else []), .int .i64 (refE reason h : Nat)]) ∧
    Sl w' v 1 (if refE reason h = 0 then rejL reason stat cmd else []).length (u64Cells (if refE reason h = 0 then rejL reason stat cmd else [])) ∧ KeptS (fun k => k = g) w w' ∧ Blk w' g 65 (cs (if refE reason h = 0 then (stat + 1) % 4294967296 else stat))
section
variable (g : Nat) (p ta ga ua oa : Value) (sn ss : List UInt8) (lim : Int) (name : List UInt8) (disc : Bool) (stat cmd : Int) (gp left : Value) (closed : Bool) (h : List UInt8) (reason : Int) (w : World)
  (hB : Blk w g 65 (fullC p ta ga ua oa sn ss lim name disc stat cmd gp left closed))
  (hs0 : 0 ≤ stat) (hs1 : stat ≤ 4294967295) (hc0 : 0 ≤ cmd) (hc1 : cmd ≤ 4294967295)
include hB hs0 hs1 hc0 hc1
set_option maxHeartbeats 4000000 in
theorem rRefuse_any : Calls Tryz.prog 10 #[.pointer (some ⟨g, 0, none⟩), .string (bs h), .int .i64 reason] w fun e w' =>
    RRefPost g (fun st => fullC p ta ga ua oa sn ss lim name disc st cmd gp left closed) stat cmd h reason w e w' := by
  obtain ⟨W1, hW1⟩ : ∃ W1, w.alloc (.cells #[.int .i64 0, .bool false, .int .i64 0, .slice none 0 0, .slice none 0 0, .string ⟨#[]⟩] 54) = W1 := ⟨_, rfl⟩
  have k1 : Below w.heap.size w W1 := by rw [← hW1]; exact (Below.refl _ _).alloc (Nat.le_refl _) _
  have P1 : Blk W1 w.heap.size 54 #[.int .i64 0, .bool false, .int .i64 0, .slice none 0 0, .slice none 0 0, .string ⟨#[]⟩] := by rw [← hW1]; exact Blk.new _ _ _
  have z1 : W1.heap.size = w.heap.size + 1 := by rw [← hW1]; simp
  have B1 := hB.below k1
  have hgl := hB.lt
  by_cases hbad : refE reason h ≠ 0
  · have y0 := (P1.cell 0).trans (rfl : _ = some (Value.int .i64 0))
    have y1 := (P1.cell 1).trans (rfl : _ = some (Value.bool false))
    have y2 := (P1.cell 2).trans (rfl : _ = some (Value.int .i64 0))
    have y3 := (P1.cell 3).trans (rfl : _ = some (Value.slice none 0 0))
    have y4 := (P1.cell 4).trans (rfl : _ = some (Value.slice none 0 0))
    have y5 := (P1.cell 5).trans (rfl : _ = some (Value.string ⟨#[]⟩))
    have v0 := P1.free 0; have v1 := P1.free 1; have v2 := P1.free 2; have v3 := P1.free 3; have v4 := P1.free 4; have v5 := P1.free 5
    obtain ⟨W2, hW2⟩ : ∃ W2, ((((((W1.setCell ⟨w.heap.size, 0, none⟩ (.int .i64 0)).setCell ⟨w.heap.size, 1, none⟩ (.bool false)).setCell ⟨w.heap.size, 2, none⟩ (.int .i64 0)).setCell ⟨w.heap.size, 3, none⟩ (.slice none 0 0)).setCell ⟨w.heap.size, 4, none⟩ (.slice none 0 0)).setCell ⟨w.heap.size, 5, none⟩ (.string ⟨#[]⟩)) = W2 := ⟨_, rfl⟩
    have T0 : Blk W2 w.heap.size 54 #[.int .i64 0, .bool false, .int .i64 0, .slice none 0 0, .slice none 0 0, .string ⟨#[]⟩] := by
      rw [← hW2]
      exact (((((P1.set 0 _).set 1 _).set 2 _).set 3 _).set 4 _).set 5 _
    have B2 : Blk W2 g 65 (fullC p ta ga ua oa sn ss lim name disc stat cmd gp left closed) := by
      rw [← hW2]
      iterate 6 refine blk_offN ?_ _ _ (by omega)
      exact B1
    have K2 : KeptS (fun k => k = g) w W2 := by
      rw [← hW2]
      exact (((((((KeptS.refl _ w).below k1).set _ _ (.inr (Nat.le_refl _))).set _ _ (.inr (Nat.le_refl _))).set _ _ (.inr (Nat.le_refl _))).set _ _ (.inr (Nat.le_refl _))).set _ _ (.inr (Nat.le_refl _))).set _ _ (.inr (Nat.le_refl _))
    have e1 := (T0.cell 0).trans (rfl : _ = some (Value.int .i64 0))
    have e2 := (T0.cell 1).trans (rfl : _ = some (Value.bool false))
    have e3 := (T0.cell 2).trans (rfl : _ = some (Value.int .i64 0))
    have e4 := (T0.cell 3).trans (rfl : _ = some (Value.slice none 0 0))
    have e5 := (T0.cell 4).trans (rfl : _ = some (Value.slice none 0 0))
    have e6 := (T0.cell 5).trans (rfl : _ = some (Value.string ⟨#[]⟩))
    have HK := hid K2; have HB2 := hid B2
    clear hB B1 P1 K2 B2 T0
    unfold RRefPost
    by_cases hr : reason < 0 ∨ 255 < reason
    · have hE : refE reason h = 2 := by unfold refE; rw [if_pos hr]
      rw [hE]
      simp only [if_neg (show ¬ (2 : Nat) = 0 by omega)]
      have cw := fun W => hid (within_false reason 0 255 W hr)
      clear hr
      go_enter Tryz.func10, Tryz.ntmps10
      go_wp2_with (go_at_call 38; refine (cw _).out.mono ?_; rintro e w7 ⟨rfl, rfl⟩)
      refine bodyPost_ret (v := .tuple #[pduV 0 false 0 (.slice none 0 0) (.slice none 0 0) [], .int .i64 2]) (by simp [results, Tryz.results10, go_sem, pduV, e1, e2, e3, e4, e5, e6]; rfl) rfl ?_
      exact ⟨_, rfl, sl_nil _ _, HK.out, HB2.out⟩
    · have hr2 : h.length ≠ 48 := by
        intro hl
        apply hbad
        unfold refE
        rw [if_neg hr, if_neg (by omega)]
      have hE : refE reason h = 4 := by unfold refE; rw [if_neg hr, if_pos hr2]
      rw [hE]
      simp only [if_neg (show ¬ (4 : Nat) = 0 by omega)]
      have cw := fun W => hid (within_true reason 0 255 W (by omega) (by omega))
      have hl : ((h.length : Int) != 48) = true := by simp; omega
      clear hbad hr2 hr
      go_enter Tryz.func10, Tryz.ntmps10
      go_wp2_with (go_at_call 38; refine (cw _).out.mono ?_; rintro e w7 ⟨rfl, rfl⟩)
      refine bodyPost_ret (v := .tuple #[pduV 0 false 0 (.slice none 0 0) (.slice none 0 0) [], .int .i64 4]) (by simp [results, Tryz.results10, go_sem, pduV, e1, e2, e3, e4, e5, e6]; rfl) rfl ?_
      exact ⟨_, rfl, sl_nil _ _, HK.out, HB2.out⟩
  · have hE : refE reason h = 0 := Classical.byContradiction hbad
    obtain ⟨a0, a1, hl⟩ := refE_zero hE
    have hl2 : ((h.length : Int) != 48) = false := by simp; omega
    unfold RRefPost
    rw [hE]
    simp only [if_true]
    clear hbad hE
    have cw := fun W => hid (within_true reason 0 255 W (by omega) (by omega))
    have wr : IntKind.u64.wrap reason = reason := by rw [IntKind.wrap_u64]; omega
    have hmm := @run_makeMap Tryz.prog
    obtain ⟨W2, hW2⟩ : ∃ W2, W1.alloc (.map #[] 0) = W2 := ⟨_, rfl⟩
    have k2 : Below W1.heap.size W1 W2 := by rw [← hW2]; exact (Below.refl _ _).alloc (Nat.le_refl _) _
    have N2 : NameM W2 (w.heap.size + 1) 0 (fun _ => 0) := by rw [← hW2, ← z1]; exact NameM.made W1
    have hre : ((reason.toNat : Nat) : Int) = reason := by omega
    obtain ⟨W3, m3, N3, g3⟩ := NameM.put N2 (by omega) nmReason (by decide) reason.toNat (by omega)
    obtain ⟨W4, m4, N4, g4⟩ := NameM.put N3 (by omega) nmITT (by decide) 4294967295 (by omega)
    rw [hre] at m3
    have m3 : (Instr.mapUpdate 115 (.map (some (w.heap.size + 1))) (.string ⟨#[82, 101, 97, 115, 111, 110]⟩) (.int .u64 reason)).run Tryz.prog W2 = .ok () W3 := m3
    have m4 : (Instr.mapUpdate 115 (.map (some (w.heap.size + 1))) (.string ⟨#[73, 84, 84]⟩) (.int .u64 4294967295)).run Tryz.prog W3 = .ok () W4 := m4
    have B4 := blk_only (blk_only (B1.below k2) g3 (by omega)) g4 (by omega)
    have P4 := blk_only (blk_only (P1.below k2) g3 (by omega)) g4 (by omega)
    have K4 : KeptS (fun k => k = g) w W4 := (((KeptS.refl _ w).below (k1.trans (k2.mono k1.size))).only g3 (fun q hq => .inr (by have := Option.some.inj hq; omega))).only g4 (fun q hq => .inr (by have := Option.some.inj hq; omega))
    have cs := hid (say_any g (w.heap.size + 1) 2 _ p ta ga ua oa sn ss lim name disc stat cmd gp left closed 63 128 h _ W4 B4 N4 (by omega) (fun m => by
      unfold setN
      split
      · omega
      · split
        · omega
        · exact Nat.zero_le _) (show findH 63 = some _ by rfl) hs0 hs1 hc0 hc1 (by omega))
    have hx : ((fieldsOf 63).map fun f => tailG (setN (setN (fun _ => 0) nmReason reason.toNat) nmITT 4294967295) stat cmd f.name) = rejL reason stat cmd := say_rej reason stat cmd
    unfold SayPost at cs
    have cs := hid (show Calls Tryz.prog 39 #[.pointer (some ⟨g, 0, none⟩), .int .i64 63, .int .i64 128, .string (bs h), .map (some (w.heap.size + 1))] W4 fun e w' =>
      ∃ v, e = .returned (pduV 63 false 128 v (.slice none 0 0) h) ∧ w'.ownsRow W4.heap.size 114 1 v (rejL reason stat cmd).length (u64Cells (rejL reason stat cmd)) ∧ KeptS (fun k => k = g ∨ k = w.heap.size + 1) W4 w' ∧ Blk w' g 65 (fullC p ta ga ua oa sn ss lim name disc ((stat + 1) % 4294967296) cmd gp left closed) from by
      rw [← hx]; exact cs.out)
    have HK4 := hid K4
    have HP4 := hid P4
    clear hx hB B1 P1 N2 N3 N4 B4 K4 P4 g3 g4 k2
    go_enter Tryz.func10, Tryz.ntmps10
    go_wp2_with (go_at_call 38; refine (cw _).out.mono ?_; rintro e w7 ⟨rfl, rfl⟩)
    refine cs.out.mono ?_
    rintro e w5 ⟨v, rfl, hown, hK, hB5⟩
    have P5 := hK.blk HP4.out (by omega)
    have h5 := P5.lt
    have KS : KeptS (fun k => k = g) w w5 := HK4.out.trans hK (fun i hi => by rcases hi with hi | hi; exact .inl hi; exact .inr (by omega))
    have hsl := sl_of_owns hown
    clear hown
    obtain ⟨sa, sc, rfl, -⟩ : ∃ sa sc, v = .slice sa (rejL reason stat cmd).length sc ∧ True := by obtain ⟨a, c, h, _⟩ := hsl; exact ⟨a, c, h, trivial⟩
    have y0 := (P5.cell 0).trans (rfl : _ = some (Value.int .i64 0))
    have y1 := (P5.cell 1).trans (rfl : _ = some (Value.bool false))
    have y2 := (P5.cell 2).trans (rfl : _ = some (Value.int .i64 0))
    have y3 := (P5.cell 3).trans (rfl : _ = some (Value.slice none 0 0))
    have y4 := (P5.cell 4).trans (rfl : _ = some (Value.slice none 0 0))
    have y5 := (P5.cell 5).trans (rfl : _ = some (Value.string ⟨#[]⟩))
    have v0 := P5.free 0; have v1 := P5.free 1; have v2 := P5.free 2; have v3 := P5.free 3; have v4 := P5.free 4; have v5 := P5.free 5
    obtain ⟨W6, hW6⟩ : ∃ W6, ((((((w5.setCell ⟨w.heap.size, 0, none⟩ (.int .i64 63)).setCell ⟨w.heap.size, 1, none⟩ (.bool false)).setCell ⟨w.heap.size, 2, none⟩ (.int .i64 128)).setCell ⟨w.heap.size, 3, none⟩ (.slice sa (rejL reason stat cmd).length sc)).setCell ⟨w.heap.size, 4, none⟩ (.slice none 0 0)).setCell ⟨w.heap.size, 5, none⟩ (.string (bs h))) = W6 := ⟨_, rfl⟩
    have T0 : Blk W6 w.heap.size 54 #[.int .i64 63, .bool false, .int .i64 128, .slice sa (rejL reason stat cmd).length sc, .slice none 0 0, .string (bs h)] := by
      rw [← hW6]
      exact (((((P5.set 0 _).set 1 _).set 2 _).set 3 _).set 4 _).set 5 _
    have B6 : Blk W6 g 65 (fullC p ta ga ua oa sn ss lim name disc ((stat + 1) % 4294967296) cmd gp left closed) := by
      rw [← hW6]
      iterate 6 refine blk_offN ?_ _ _ (by omega)
      exact hB5
    have K6 : KeptS (fun k => k = g) w W6 := by
      rw [← hW6]
      exact (((((KS.set _ _ (.inr (Nat.le_refl _))).set _ _ (.inr (Nat.le_refl _))).set _ _ (.inr (Nat.le_refl _))).set _ _ (.inr (Nat.le_refl _))).set _ _ (.inr (Nat.le_refl _))).set _ _ (.inr (Nat.le_refl _))
    have S6 : Sl W6 (.slice sa (rejL reason stat cmd).length sc) 1 (rejL reason stat cmd).length (u64Cells (rejL reason stat cmd)) := by
      rw [← hW6]
      have hfar := u64_farN hsl P5 (fun i x h => by rcases i with _ | _ | _ | _ | _ | _ | i <;> simp at h)
      iterate 6 refine sl_setN ?_ _ _ _ hfar
      exact hsl
    have e1 := (T0.cell 0).trans (rfl : _ = some (Value.int .i64 63))
    have e2 := (T0.cell 1).trans (rfl : _ = some (Value.bool false))
    have e3 := (T0.cell 2).trans (rfl : _ = some (Value.int .i64 128))
    have e4 := (T0.cell 3).trans (rfl : _ = some (Value.slice sa (rejL reason stat cmd).length sc))
    have e5 := (T0.cell 4).trans (rfl : _ = some (Value.slice none 0 0))
    have e6 := (T0.cell 5).trans (rfl : _ = some (Value.string (bs h)))
    have HK6 := hid K6; have HB6 := hid B6; have HS6 := hid S6
    clear cs hsl hK hB5 P5 KS T0 K6 B6 S6 HP4
    generalize hRL : rejL reason stat cmd = RL at *
    have HRL := hid hRL
    clear hRL
    unfold pduV
    go_wp2
    refine bodyPost_ret (v := .tuple #[pduV 63 false 128 (.slice sa RL.length sc) (.slice none 0 0) h, .int .i64 0]) (by simp [results, Tryz.results10, go_sem, pduV, e1, e2, e3, e4, e5, e6]) rfl ?_
    exact ⟨_, rfl, by rw [HRL.out]; exact HS6.out, HK6.out, HB6.out⟩
end
end Go.Proofs.YtbimlijhgeajjaaGreatDoor

namespace Go.Proofs.YtbimlijhgeajjaaGreatDoor
open Go Go.RowKit
set_option linter.unusedVariables false
set_option linter.unusedSectionVars false
set_option linter.unusedSimpArgs false
set_option maxRecDepth 100000
theorem fNext_any (g : Nat) (stat cmd : Int) (w : World) (h10 : w.cell? ⟨g, 10, none⟩ = some (.int .u32 stat)) (h11 : w.cell? ⟨g, 11, none⟩ = some (.int .u32 cmd)) :
    Calls Tryz.prog 12 #[.pointer (some ⟨g, 0, none⟩)] w fun e w' => e = .returned (.tuple #[.int .u32 stat, .int .u32 cmd]) ∧ Below w.heap.size w w' := by
  go_enter Tryz.func12, Tryz.ntmps12
  go_wp2
  go_quiet (fail)
  go_wp2
  go_ret2
  exact ⟨rfl, below_drewN (Below.refl _ _) _⟩
theorem blk_neT {w : World} {a b : Nat} {T U : TypeId} {cs ds : Array Value} (h : Blk w a T cs) (k : Blk w b U ds) (hn : T ≠ U) : a ≠ b := by
  rintro rfl
  unfold Blk at h k
  rw [h] at k
  simp only [Option.some.injEq, Obj.cells.injEq] at k
  exact hn k.2.1
theorem fullC_far (q : Option Addr) (ta ga ua oa la : Option Addr) (tn gn un on ln tc gc uc oc lc : Nat) (sn ss : List UInt8) (lim : Int) (name : List UInt8) (disc : Bool) (st cmd : Int) (gq : Option Addr) (closed : Bool) (i : Nat) (x : Int) :
    (fullC (.pointer q) (.slice ta tn tc) (.slice ga gn gc) (.slice ua un uc) (.slice oa on oc) sn ss lim name disc st cmd (.pointer gq) (.slice la ln lc) closed)[i]? ≠ some (Value.int .u64 x) := by
  intro h
  have hm := Array.mem_of_getElem? h
  simp [fullC] at hm
theorem sl_keptS {S : Nat → Prop} {a w : World} {v : Value} {size n : Nat} {cs : List Value} (h : Sl a v size n cs) (hk : KeptS S a w) (hf : ∀ b o q, v = .slice (some ⟨b, o, none⟩) n q → n ≠ 0 → ¬ S b) : Sl w v size n cs := by
  obtain ⟨x, c, rfl, hl, hc⟩ := h
  refine ⟨x, c, rfl, hl, ?_⟩
  rcases Nat.eq_zero_or_pos n with h0 | h0
  · exact .inl h0
  · rcases hc with hc | ⟨b, o, rfl, hc⟩
    · omega
    · exact .inr ⟨b, o, rfl, fun j u hu => hk.cell (hc j u hu) (hf b o c rfl (by omega))⟩
end Go.Proofs.YtbimlijhgeajjaaGreatDoor

namespace Go.Proofs.YtbimlijhgeajjaaGreatDoor
open Go Go.RowKit
set_option linter.unusedVariables false
set_option linter.unusedSectionVars false
set_option linter.unusedSimpArgs false
abbrev notU : List UInt8 := [78, 111, 116, 85, 110, 100, 101, 114, 115, 116, 111, 111, 100]
abbrev rejectL : List UInt8 := [82, 101, 106, 101, 99, 116]
abbrev irrL : List UInt8 := [73, 114, 114, 101, 108, 101, 118, 97, 110, 116]
/-- what one has of a key (or what it is, over what is recorded) -/
def ofP (l : PL) (key : List UInt8) : List UInt8 × Nat :=
  match findK keyRows key with
  | none => ([], 5)
  | some k => (if (findP l key).2 = true then (findP l key).1 else k.dv, 0)
/-- what is said to an offer, and what comes of it -/
def ansP (mine : PL) (x : List UInt8 × List UInt8) (login disc : Bool) : List UInt8 × List UInt8 :=
  match findK keyRows x.1 with
  | none => (notU, [])
  | some k =>
    if (k.lo == [76]) = true ∧ login = false then (rejectL, []) else
    if (k.no == [78]) = true ∧ disc = true then (irrL, []) else
    if fitsK k x.2 ≠ 0 then (rejectL, []) else
    if k.kind = 6 ∨ k.kind = 7 then ([], x.2) else
    if (resP x.1 x.2 (ofP mine x.1).1).2 ≠ 0 then (rejectL, []) else ((resP x.1 x.2 (ofP mine x.1).1).1, (resP x.1 x.2 (ofP mine x.1).1).1)
def without (r : PL) (key : List UInt8) : PL := r.filter fun q => !(q.1 == key)
/-- what is recorded then -/
def recP (r : PL) (x : List UInt8 × List UInt8) (is : List UInt8) : PL := if is = [] then r else without r x.1 ++ [(x.1, is)]
/-- all offers, one by one: what is said, what is recorded -/
def ansAll (mine : PL) (login disc : Bool) : PL → PL × PL → PL × PL
  | [], s => s
  | x :: l, (out, r) => ansAll mine login disc l (if (ansP mine x login disc).1 = [] then out else out ++ [(x.1, (ansP mine x login disc).1)], recP r x (ansP mine x login disc).2)
theorem ansAll_drop (mine : PL) (login disc : Bool) (l : PL) (k : Nat) (s : PL × PL) (h : k < l.length) : ansAll mine login disc (l.drop k) s = ansAll mine login disc (l.drop (k + 1)) (if (ansP mine (l.getD k ([], [])) login disc).1 = [] then s.1 else s.1 ++ [((l.getD k ([], [])).1, (ansP mine (l.getD k ([], [])) login disc).1)], recP s.2 (l.getD k ([], [])) (ansP mine (l.getD k ([], [])) login disc).2) := by
  rw [drop_cons l k ([], []) h]
  obtain ⟨a, b⟩ := s
  rw [ansAll]
theorem ansAll_end (mine : PL) (login disc : Bool) (l : PL) (k : Nat) (s : PL × PL) (h : l.length ≤ k) : ansAll mine login disc (l.drop k) s = s := by
  rw [List.drop_eq_nil_of_le h, ansAll]
/-- which offer is there already -/
def twiceK (offers r : PL) (login : Bool) (k : Nat) : Bool := ((offers.take k).map (·.1)).contains (offers.getD k ([], [])).1 || ((r.map (·.1)).contains (offers.getD k ([], [])).1 && login)
/-- what is wrong with offers -/
def offP (offers r : PL) (login : Bool) : Nat × Int := if (pairsR offers).1 ≠ 0 then pairsR offers else match (List.range offers.length).find? (fun k => twiceK offers r login k) with | some k => (9, (k : Int)) | none => (0, -1)
theorem offP_pairs (o r : PL) (login : Bool) (h : (pairsR o).1 ≠ 0) : offP o r login = pairsR o := if_pos h
theorem offP_at (o r : PL) (login : Bool) (k : Nat) (h0 : (pairsR o).1 = 0) (hk : k < o.length) (hb : twiceK o r login k = true) (ha : ∀ j, j < k → twiceK o r login j = false) : offP o r login = (9, (k : Int)) := by
  unfold offP
  rw [if_neg (by simp [h0])]
  have : (List.range o.length).find? (fun k => twiceK o r login k) = some k := by
    rw [List.find?_range_eq_some]
    refine ⟨hb, by simpa using hk, fun j hj => ?_⟩
    simp [ha j hj]
  rw [this]
theorem offP_good (o r : PL) (login : Bool) (h0 : (pairsR o).1 = 0) (ha : ∀ j, j < o.length → twiceK o r login j = false) : offP o r login = (0, -1) := by
  unfold offP
  rw [if_neg (by simp [h0])]
  have : (List.range o.length).find? (fun k => twiceK o r login k) = none := by
    rw [List.find?_eq_none]
    intro j hj
    rw [List.mem_range] at hj
    simp [ha j hj]
  rw [this]
end Go.Proofs.YtbimlijhgeajjaaGreatDoor

namespace Go.Proofs.YtbimlijhgeajjaaGreatDoor
open Go Go.RowKit Go.Maps
set_option linter.unusedVariables false
set_option linter.unusedSectionVars false
set_option linter.unusedSimpArgs false
theorem boolLawY : Keyed Tryz.prog 4 := bool_keyed Tryz.underlying4
theorem zeroStrY (w : World) : (zeroValue 9).run Tryz.prog w = .ok (.string (bs [])) w := by kernel_rfl
theorem elemStrY (s : List UInt8) (h : s.length ≤ 100) : ∃ d p, plainElem (H := Unit) Tryz.prog 9 (.string (bs s)) = some (d, p) :=
  ⟨_, _, plainElem_string Tryz.underlying9 (by rw [bs_size]; unfold maxLen; omega)⟩
def yesT (b : Bool) : List UInt8 := if b then yesL else noL
def yesF1 : Value → Value | .bool true => .string (bs yesL) | _ => .string (bs [])
def yesF2 : Value → Value | .bool true => .string (bs yesL) | .bool false => .string (bs noL) | _ => .string (bs [])
theorem yes_any (b : Bool) (w : World) : Calls Tryz.prog 128 #[.bool b] w fun e w' => e = .returned (.string (bs (yesT b))) ∧ Below w.heap.size w w' := by
  obtain ⟨z, hz⟩ : ∃ z, ∃ p, plainElem (H := Unit) Tryz.prog 9 (.string (bs [])) = some (z, p) := by
    obtain ⟨d, p, h⟩ := elemStrY [] (by simp)
    exact ⟨d, p, h⟩
  obtain ⟨w1, r1, m1, g1⟩ := MapAs.put (T := 284) (MapAs.made (P := Tryz.prog) (K := 4) (E := 9) w (.string (bs [])) z hz) boolLawY Tryz.underlying284 (by unfold maxLen; omega) (keyOf_bool_mk Tryz.underlying4 true) (elemStrY yesL (by decide))
  have m1 := m1 yesF1 rfl (fun v hv => by
    cases v <;> try rfl
    rename_i q
    cases q
    · rfl
    · exact absurd rfl hv)
  obtain ⟨w2, r2, m2, g2⟩ := MapAs.put (T := 284) m1 boolLawY Tryz.underlying284 (by unfold maxLen; omega) (keyOf_bool_mk Tryz.underlying4 false) (elemStrY noL (by decide))
  have m2 := m2 yesF2 rfl (fun v hv => by
    cases v <;> try rfl
    rename_i q
    cases q
    · exact absurd rfl hv
    · rfl)
  have hl := MapAs.look m2 (T := 284) boolLawY Tryz.underlying284 (zeroStrY w2) hz (keyOf_bool_mk Tryz.underlying4 b)
  have hy : (⟨#[89, 101, 115]⟩ : ByteArray) = bs yesL := rfl
  have hn : (⟨#[78, 111]⟩ : ByteArray) = bs noL := rfl
  have hv : yesF2 (.bool b) = .string (bs (yesT b)) := by cases b <;> rfl
  rw [hv] at hl
  have hB : Below w.heap.size w w2 := by
    have h0 := (Below.refl w.heap.size w).alloc (Nat.le_refl _) (.map #[] 0)
    refine ⟨g2.os.trans (g1.os.trans h0.os), g2.tape.trans (g1.tape.trans h0.tape), g2.output.trans (g1.output.trans h0.output), Nat.le_trans h0.size (Nat.le_trans g1.size g2.size), fun k hk => ?_⟩
    have hk1 : k < (w.alloc (.map #[] 0)).heap.size := Nat.lt_of_lt_of_le hk h0.size
    have hne : some k ≠ some w.heap.size := by intro e; cases e; omega
    exact (g2.block k (Nat.lt_of_lt_of_le hk1 g1.size) hne).trans ((g1.block k hk1 hne).trans (h0.block k hk))
  have hmm := @run_makeMap Tryz.prog
  clear m1 m2 g1 g2 hz hv
  go_enter Tryz.func128, Tryz.ntmps128
  go_wp2
  go_ret
  exact ⟨rfl, hB⟩
end Go.Proofs.YtbimlijhgeajjaaGreatDoor
