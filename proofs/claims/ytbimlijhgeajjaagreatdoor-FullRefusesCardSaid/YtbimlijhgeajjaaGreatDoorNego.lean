/- What is wrong with pairs, by the program. -/
import Derived.Test.YtbimlijhgeajjaaGreatDoorSplitPure
import Derived.Test.YtbimlijhgeajjaaGreatDoorClone
import Derived.Test.YtbimlijhgeajjaaGreatDoorFits
import Derived.Test.YtbimlijhgeajjaaGreatDoorPairKey
import Derived.Deep.DeepCutAuto
set_option linter.unusedSectionVars false
set_option linter.unusedSimpArgs false
set_option linter.unusedVariables false
namespace Go.Proofs.YtbimlijhgeajjaaGreatDoor
open Go.RowKit
set_option linter.unusedVariables false
set_option maxRecDepth 100000
theorem own_slice {w : World} {base : Nat} {e : TypeId} {size n : Nat} {v : Value} {xs : List Value} (h : w.ownsRow base e size v n xs) : ∃ A cap, v = .slice A n cap := by
  rcases h.2 with ⟨rfl, rfl⟩ | ⟨g, cap, cur, rfl, _⟩
  · exact ⟨_, _, rfl⟩
  · exact ⟨_, _, rfl⟩
theorem slice_from {P : Program} (t e : TypeId) (ht : P.underlying t = some (.slice e)) (size : Nat) (hsz : ∀ w, (sizeOf e).run P w = .ok size w) (g o n cap k : Nat) (hk : k ≤ n) (hkc : k < cap) (w : World) :
    (Instr.slice t (.slice (some ⟨g, o, none⟩) n cap) (some (.int .i64 (k : Int))) none none).run P w = .ok (.slice (some ⟨g, o + k * size, none⟩) (n - k) (cap - k)) w := by
  have he : P.elem t = e := by simp [Program.elem, ht]
  rw [run_slice_l w t _ n cap (by rw [he]; exact ht) .i64 k (by omega) (by omega), he, hsz]
  simp only [Result.andThen, sliced]
  rw [if_neg (by omega)]
  by_cases h0 : k * size = 0 <;> simp [Addr.add, h0]
theorem slice_one (g n cap : Nat) (h : n + 1 ≤ cap) (w : World) : (Instr.slice 28 (.slice (some ⟨g, 0, none⟩) (n + 1) cap) (some (.int .i64 (n : Int))) none none).run Tryz.prog w = .ok (.slice (some ⟨g, n * 2, none⟩) 1 (cap - n)) w := by
  have hsl := slice_from (P := Tryz.prog) 28 83 Tryz.underlying28 2 (by intro w; kernel_rfl) g 0 (n + 1) cap n (by omega) (by omega) w
  rwa [Nat.add_sub_cancel_left, Nat.zero_add] at hsl
theorem errIs_at {w : World} {v : Value} {k : Nat} {pl : Int} (h : ErrIs w v k pl) (hk : 0 < k) (hp : 0 ≤ pl) : ∃ b, v = .iface 98 (.pointer (some ⟨b, 0, none⟩)) := by
  generalize hq : pl = q at h
  cases h with
  | nil => omega
  | bare k h => omega
  | at_ k h pl b h0 h1 => exact ⟨b, rfl⟩
theorem errIs_zero' {w : World} {v : Value} {pl : Int} (h : ErrIs w v 0 pl) : v = .nilIface := by
  generalize hk : 0 = k at h
  cases h <;> first | rfl | omega
theorem errAt_new (w : World) (k : Nat) (pl : Int) (hk : 0 < k) : ErrIs (w.alloc (.cells #[.int .i64 k, .int .i64 pl] 100)) (.iface 98 (.pointer (some ⟨w.heap.size, 0, none⟩))) k pl :=
  .at_ k hk pl w.heap.size (by simp) (by simp)
def PRightPost (l : PL) (w : World) (e : Ending) (w' : World) : Prop := (∃ er, e = .returned er ∧ ErrIs w' er (pairsR l).1 (pairsR l).2) ∧ Below w.heap.size w w'
def RPRight (l : PL) (w : World) (i : Value) (wr : World) : Prop :=
  ∃ k : Nat, k ≤ l.length ∧ i = .int .i64 (k : Nat) ∧ pairsR l = pairsRG (l.drop k) k ∧ Below w.heap.size w wr
set_option maxHeartbeats 4000000 in
theorem pairsRight_any (v : Value) (l : PL) (w : World) (h : PSl w v l) (hbd : PBd l) :
    Calls Tryz.prog 30 #[v] w fun e w' => PRightPost l w e w' := by
  obtain ⟨hn, hlen⟩ := hbd
  by_cases h60 : 60 < l.length
  · have hR : pairsR l = (4, -1) := by rw [pairsR, if_pos h60]
    have HR := hid hR; clear hR
    rcases h.open_ with ⟨rfl, _⟩ | ⟨h0, b, o, c, rfl, _, _⟩
    · simp at h60
    clear h
    have h60' : decide ((60 : Int) < (l.length : Int)) = true := decide_eq_true (by omega)
    go_enter Tryz.func30, Tryz.ntmps30
    go_wp2
    go_ret
    refine ⟨⟨_, rfl, ?_⟩, Below.refl _ _⟩
    rw [HR.out]; exact .bare 4 (by omega)
  have hR : pairsR l = pairsRG l 0 := by rw [pairsR, if_neg h60]
  rcases h.open_ with ⟨rfl, a, c, rfl⟩ | ⟨h0, b, o, c, rfl, hbl, hcell⟩
  · clear h hR hlen
    go_enter Tryz.func30, Tryz.ntmps30
    go_wp2
    refine wp_loop_rounds 1 ?_
    rw [rounds_succ]
    go_wp2
    go_ret
    exact ⟨⟨.nilIface, rfl, .nil⟩, Below.refl _ _⟩
  clear h
  have Hcell := hid hcell; clear hcell
  have HR := hid hR; clear hR
  have Hlen := hid hlen; clear hlen
  have h60' : decide ((60 : Int) < (l.length : Int)) = false := decide_eq_false (by omega)
  go_enter Tryz.func30, Tryz.ntmps30
  go_wp2
  go_loopw [11] (fun i wr => RPRight l w i wr) (fun i _ => l.length - (intOf i).toNat)
  case atStart => exact ⟨0, by omega, rfl, by rw [HR.out]; rfl, Below.refl _ _⟩
  case round =>
    obtain ⟨k, hk, rfl, heq, hb⟩ := hrel
    have hB := hb.size
    by_cases hlt : k < l.length
    · obtain ⟨c0, c1⟩ := Hcell.out k hlt
      have g0 := (hb.cell (p := ⟨b, o + k * 2, none⟩) hbl).trans c0
      have g1 := (hb.cell (p := ⟨b, o + k * 2 + 1, none⟩) hbl).trans c1
      obtain ⟨hd0, hd1⟩ := Hlen.out k
      rw [pairsRG_drop l k hlt] at heq
      clear c0 c1
      generalize l.getD k ([], []) = x at *
      obtain ⟨x1, x2⟩ := x
      simp only at *
      have c1 := fun w => hid (key_any x1 w hd0)
      have c2 := fun w => hid (value_any x2 w hd1)
      cases hk1 : isKey x1 with
      | false =>
        rw [hk1] at c1
        rw [hk1, if_pos rfl] at heq
        have Heq := hid heq; clear heq hk1
        go_wp2_with (go_at_call 70; refine (c1 _).out.mono ?_; rintro e w1 ⟨rfl, rfl⟩)
        go_ret
        refine ⟨⟨_, rfl, ?_⟩, (hb.alloc hB _).alloc (by simp; omega) _⟩
        rw [Heq.out]; exact .at_ 5 (by omega) k (wr.heap.size + 1) (by simp) (by simp)
      | true =>
        rw [hk1] at c1
        rw [hk1, if_neg (by simp)] at heq
        cases hv2 : isValue x2 with
        | false =>
          rw [hv2] at c2
          rw [hv2, if_pos rfl] at heq
          have Heq := hid heq; clear heq hk1 hv2
          go_wp2_with first
            | (go_at_call 70; refine (c1 _).out.mono ?_; rintro e w1 ⟨rfl, rfl⟩)
            | (go_at_call 71; refine (c2 _).out.mono ?_; rintro e w1 ⟨rfl, rfl⟩)
          go_ret
          refine ⟨⟨_, rfl, ?_⟩, (hb.alloc hB _).alloc (by simp; omega) _⟩
          rw [Heq.out]; exact .at_ 3 (by omega) k (wr.heap.size + 1) (by simp) (by simp)
        | true =>
          rw [hv2] at c2
          rw [hv2, if_neg (by simp)] at heq
          have Heq := hid heq; clear heq hk1 hv2
          go_wp2_with first
            | (go_at_call 70; refine (c1 _).out.mono ?_; rintro e w1 ⟨rfl, rfl⟩)
            | (go_at_call 71; refine (c2 _).out.mono ?_; rintro e w1 ⟨rfl, rfl⟩)
          go_roundw
          case rel => exact ⟨k + 1, by omega, by go_num, Heq.out, hb.alloc hB _⟩
          case measure => simp [intOf]; omega
    · obtain rfl : k = l.length := by omega
      go_wp2
      go_ret
      refine ⟨⟨_, rfl, ?_⟩, hb⟩
      rw [heq, List.drop_length]; exact .nil
end Go.Proofs.YtbimlijhgeajjaaGreatDoor

namespace Go.Proofs.YtbimlijhgeajjaaGreatDoor
open Go Go.RowKit
set_option linter.unusedVariables false
set_option linter.unusedSectionVars false
set_option linter.unusedSimpArgs false
set_option maxRecDepth 100000
/-- a Nego of the program's, that nothing came of yet -/
def NegoAt (w : World) (B g : Nat) (own : PL) : Prop :=
  ∃ ov, B ≤ g ∧ w.heap[g]? = some (.cells #[ov, .slice none 0 0] 105 (0, 0)) ∧ w.ownsRow B 83 2 ov own.length (pairCells own)
def NegoPost (l : PL) (w : World) (e : Ending) (w' : World) : Prop :=
  (∃ p er, e = .returned (.tuple #[.pointer p, er]) ∧ ErrIs w' er (negoP l).1 (negoP l).2 ∧ ((negoP l).1 ≠ 0 → p = none) ∧ ((negoP l).1 = 0 → ∃ g, p = some ⟨g, 0, none⟩ ∧ NegoAt w' w.heap.size g l)) ∧ Below w.heap.size w w'
theorem psl_take {w : World} {a : Option Addr} {n c : Nat} {l : PL} (h : PSl w (.slice a n c) l) (k : Nat) (hk : k ≤ l.length) (c' : Nat) : PSl w (.slice a k c') (l.take k) := by
  obtain ⟨a', cap, hv, hl, hc⟩ := h
  cases hv
  have hlen : (l.take k).length = k := by rw [List.length_take]; omega
  unfold PSl
  rw [hlen]
  refine ⟨a, c', rfl, by rw [pairCells_length, hlen], ?_⟩
  by_cases h0 : k = 0
  · exact .inl h0
  · obtain ⟨b, off, ha, hcell⟩ := hc.resolve_left (by omega)
    refine .inr ⟨b, off, ha, fun j u hu => hcell j u ?_⟩
    have hj : j < (pairCells (l.take k)).length := (List.getElem?_eq_some_iff.1 hu).1
    rw [← hu]
    conv => lhs; rw [← List.take_append_drop k l, pairCells_append]
    rw [List.getElem?_append_left hj]
theorem errOf_zero {w : World} {v : Value} {k : Nat} {pl : Int} (h : ErrIs w v k pl) (hk : k = 0) : v = .nilIface := by
  cases h with
  | nil => rfl
  | bare k h => omega
  | at_ k h => omega
theorem errOf_pos {w : World} {v : Value} {k : Nat} {pl : Int} (h : ErrIs w v k pl) (hk : k ≠ 0) : ∃ T x, v = .iface T x := by
  cases h with
  | nil => exact absurd rfl hk
  | bare k h => exact ⟨_, _, rfl⟩
  | at_ k h => exact ⟨_, _, rfl⟩
def RNew (l : PL) (W : World) (i : Value) (wr : World) : Prop :=
  ∃ k : Nat, k ≤ l.length ∧ i = .int .i64 (k : Nat) ∧ Hid (GoodAhead l k) ∧ Below W.heap.size W wr
section
variable (v : Value) (l : PL) (w : World) (h : PSl w v l) (hbd : PBd l) (hn : l.length ≤ 1048576) (hcap : ∀ a c, v = .slice a l.length c → l.length ≤ c) (hsz : ∀ k, (l.getD k ([], [])).2.length ≤ 100000) (hg : EType w) (hT : AS w) (hev : EV w)
include h hbd hn hcap hsz hg hT hev
set_option maxHeartbeats 8000000 in
theorem new_any : Calls Tryz.prog 6 #[v] w fun e w' => NegoPost l w e w' := by
  have cp := hid (pairsRight_any v l w h hbd)
  unfold PRightPost at cp
  by_cases hp0 : (pairsR l).1 ≠ 0
  · have HE := hid (negoP_pairs l hp0)
    go_enter Tryz.func6, Tryz.ntmps6
    go_wp2_with fail
    refine cp.out.mono ?_
    rintro e w1 ⟨⟨er, rfl, her⟩, hb1⟩
    obtain ⟨T, x, rfl⟩ := errOf_pos her hp0
    have hp1 := hp0
    clear hp1
    go_wp2
    go_ret2
    refine ⟨⟨_, _, rfl, by rw [HE.out]; exact her, fun _ => rfl, fun h0 => absurd (by rw [HE.out] at h0; exact h0) hp0⟩, hb1⟩
  · have hp0' : (pairsR l).1 = 0 := Classical.byContradiction hp0
    have HAT := hid (fun k hk hb ha => negoP_at l k hp0' hk hb ha)
    have HGD := hid (fun ha => negoP_good l hp0' ha)
    have cf := fun k W (hb : Below w.heap.size w W) (a : Option Addr) (c : Nat) (hv : v = .slice a l.length c) (hk : k ≤ l.length) (c' : Nat) (key : List UInt8) => hid (find_any (.slice a k c') (l.take k) key W (psl_take (n := l.length) (c := c) (by rw [← hv]; exact h.below hb) k hk c') (by rw [List.length_take]; omega))
    have ck := fun k W (hb : Below w.heap.size w W) => hid (fits_any (l.getD k ([], [])).1 (l.getD k ([], [])).2 W (hsz k) (hT.below hb (Nat.le_refl _)) (hev.below hb))
    have ct := fun x k pl W (hb : Below w.heap.size w W) (hv : ErrIs W x k pl) => hid (tell_any x k pl W (hg.below hb) hv)
    have cc := fun W (hb : Below w.heap.size w W) => hid (clone_any v l W (h.below hb) hn)
    rw [hp0'] at cp
    have hF := h
    obtain ⟨sa, sc, rfl, _, _⟩ := hF
    have hcs := hcap _ _ rfl
    have HS := hid h
    clear h hsz hg hT hev hp0 hp0' hcap
    go_enter Tryz.func6, Tryz.ntmps6
    go_wp2_with fail
    refine cp.out.mono ?_
    rintro e w1 ⟨⟨er, rfl, her⟩, hb1⟩
    obtain rfl := errOf_zero her rfl
    clear her cp
    go_wp2
    go_loopw [17] (fun i wr => RNew l w i wr) (fun i _ => l.length - (intOf i).toNat)
    case atStart => exact ⟨0, by omega, rfl, hid (fun j hj => absurd hj (by omega)), hb1⟩
    case round =>
      obtain ⟨k, hk, rfl, HA, hb⟩ := hrel
      have hB := hb.size
      by_cases hlt : k < l.length
      · obtain ⟨_, b, o, c, hveq, hbl, hcell⟩ := (HS.out.below hb).open_.resolve_left (by rintro ⟨rfl, _⟩; simp at hlt)
        cases hveq
        obtain ⟨g0, g1⟩ := hcell k hlt
        have HAT := hid (HAT.out k hlt)
        have HGA := hid (fun hk0 => HA.out.step hk0)
        have HGO := hid HA.out
        have cf1 := fun W hb => cf k W hb (some ⟨b, o, none⟩) sc rfl hk sc (l.getD k ([], [])).1
        have ck1 := ck k
        have HBK := hid (show badK l k = if (findP (l.take k) (l.getD k ([], [])).1).2 = true then 9 else fitsP (l.getD k ([], [])).1 (l.getD k ([], [])).2 from rfl)
        unfold PFindPost at cf1
        clear hcell cf ck cc HA
        generalize l.getD k ([], []) = x at *
        obtain ⟨x1, x2⟩ := x
        simp only at *
        obtain ⟨W6, hW6⟩ : ∃ W6, wr.alloc (.cells #[.string (bs x1), .string (bs x2)] 83) = W6 := ⟨_, rfl⟩
        have hA6 : Below wr.heap.size wr W6 := by rw [← hW6]; exact (Below.refl _ _).alloc (Nat.le_refl _) _
        have b6 := hb.trans (hA6.mono hB)
        have p0 : W6.cell? ⟨wr.heap.size, 0, none⟩ = some (.string (bs x1)) := by rw [← hW6]; simp
        have p1 : W6.cell? ⟨wr.heap.size, 1, none⟩ = some (.string (bs x2)) := by rw [← hW6]; simp
        have hlt6 : wr.heap.size < W6.heap.size := by rw [← hW6]; simp
        generalize findP (l.take k) x1 = fp at *
        obtain ⟨f1, f2⟩ := fp
        simp only at *
        have hk64 : (k : Int) ≤ (sc : Int) := by omega
        go_upto_region 7 with fail
        go_cut [7, 8] (fun s7 s8 wx => s7 = .string (bs f1) ∧ s8 = .bool f2 ∧ Below W6.heap.size W6 wx)
        case first =>
          go_region_with first
            | (go_at_call 31; refine (cf1 _ b6.drew).out.mono ?_; rintro e w7 ⟨rfl, hb7⟩)
          all_goals
            go_wp2_with fail
            go_meet
            exact ⟨rfl, rfl, (Below.refl _ _).drew.trans hb7⟩
        case rest =>
          obtain ⟨rfl, rfl, hb7⟩ := hcut
          have b7 := b6.trans (hb7.mono b6.size)
          have p0 := (hb7.cell (p := ⟨wr.heap.size, 0, none⟩) hlt6).trans p0
          have p1 := (hb7.cell (p := ⟨wr.heap.size, 1, none⟩) hlt6).trans p1
          clear cf1
          cases f2 with
          | true =>
            have hbk : badK l k = 9 := by rw [HBK.out]; rfl
            have HE := hid (show negoP l = (9, (k : Int)) by rw [HAT.out (by rw [hbk]; omega) HGO.out, hbk])
            clear hbk HBK HGA HAT HGO
            go_wp2
            go_ret2
            refine ⟨⟨_, _, rfl, by rw [HE.out]; exact .at_ 9 (by omega) _ wc.heap.size (by simp) (by simp), fun _ => rfl, fun h0 => absurd (by rw [HE.out] at h0; exact h0) (by omega)⟩, b7.alloc b7.size _⟩
          | false =>
            have hbk : badK l k = fitsP x1 x2 := by rw [HBK.out]; rfl
            have ck2 := ck1 _ b7
            rw [hbk] at HGA HAT
            clear hbk HBK ck1
            generalize fitsP x1 x2 = F at *
            by_cases hF : F = 0
            · subst hF
              have HS2 := hid (HGA.out rfl)
              rw [errV_zero] at ck2
              clear HGA HAT HGO
              go_wp2_with fail
              refine ck2.out.mono ?_
              rintro e w8 ⟨rfl, hb8⟩
              go_wp2
              refine ⟨⟨k + 1, by omega, by go_num, hid HS2.out, b7.trans (hb8.mono b7.size)⟩, by simp [intOf]; omega⟩
            · have hFp : 0 < F := by omega
              have HE := hid (show negoP l = (F, (k : Int)) from HAT.out hF HGO.out)
              rw [errV_pos _ _ hFp] at ck2
              clear HGA HAT HGO hF
              go_wp2_with fail
              refine ck2.out.mono ?_
              rintro e w8 ⟨rfl, hb8⟩
              have b8 := b7.trans (hb8.mono b7.size)
              have ct1 := ct (.iface 32 (.int .i64 (F : Nat))) F (-1) w8 b8 (.bare F hFp)
              go_wp2_with fail
              refine ct1.out.mono ?_
              rintro e w9 ⟨rfl, hb9⟩
              have b9 := b8.trans (hb9.mono b8.size)
              go_wp2
              go_ret2
              refine ⟨⟨_, _, rfl, by rw [HE.out]; exact .at_ F hFp _ w9.heap.size (by simp) (by simp), fun _ => rfl, fun h0 => absurd (by rw [HE.out] at h0; exact h0) (by omega)⟩, b9.alloc b9.size _⟩
      · obtain rfl : k = l.length := by omega
        have HE := hid (HGD.out HA.out)
        go_wp2_with fail
        refine (cc _ hb).out.mono ?_
        rintro e w2 ⟨⟨ov, rfl, hown⟩, hb2⟩
        have b2 := hb.trans (hb2.mono hB)
        have hob : w2.ownsRow w.heap.size 83 2 ov l.length (pairCells l) := ⟨hown.1, hown.2.elim Or.inl (fun ⟨g, cap, cur, h1, h2, r⟩ => Or.inr ⟨g, cap, cur, h1, Nat.le_trans hB h2, r⟩)⟩
        have HO := hid hob
        rcases hown.2 with ⟨rfl, _⟩ | ⟨og, ocap, ocur, rfl, _⟩
        all_goals
          clear hown hob
          go_wp2
          go_ret2
          refine ⟨⟨_, _, rfl, by rw [HE.out]; exact .nil, fun h => absurd (by rw [HE.out]) h, fun _ => ⟨w2.heap.size, rfl, _, b2.size, heap_alloc_new _ _, HO.out.alloc _⟩⟩, b2.alloc b2.size _⟩
end
end Go.Proofs.YtbimlijhgeajjaaGreatDoor
