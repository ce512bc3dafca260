/- Offers, one by one: by the program. -/
import Derived.Test.YtbimlijhgeajjaaGreatDoorChapFind
import Derived.Test.YtbimlijhgeajjaaGreatDoorNegoSt
import Derived.Test.YtbimlijhgeajjaaGreatDoorAhsW
import Derived.Test.YtbimlijhgeajjaaGreatDoorParse
import Derived.Deep.DeepCutAuto
import Derived.Test.YtbimlijhgeajjaaGreatDoorNegoOps
import Derived.Test.YtbimlijhgeajjaaGreatDoorShelfL
set_option linter.unusedSectionVars false
set_option linter.unusedSimpArgs false
set_option linter.unusedVariables false
namespace Go.Proofs.YtbimlijhgeajjaaGreatDoor
open Go Go.RowKit
set_option linter.unusedVariables false
set_option linter.unusedSectionVars false
set_option linter.unusedSimpArgs false
set_option maxRecDepth 100000
/-- a Nego of the program's -/
structure NegoS (w : World) (B g : Nat) (ov rv : Value) (own rec : PL) : Prop where
  blk : Blk w g 105 #[ov, rv]
  hov : PSl w ov own
  hrv : w.ownsRow B 83 2 rv rec.length (pairCells rec)
  sg : rv.ownBlock ≠ some g
  so : FarO ov own (fun k => k = g ∨ rv.ownBlock = some k)
theorem NegoS.below {w w' : World} {B g : Nat} {ov rv : Value} {own rec : PL} (h : NegoS w B g ov rv own rec) (hb : Below w.heap.size w w') : NegoS w' B g ov rv own rec :=
  ⟨h.blk.below hb, h.hov.below hb, owns_below h.hrv hb, h.sg, h.so⟩
def outP (own : PL) (offers rec : PL) (login disc : Bool) : PL × PL := if (offP offers rec login).1 = 0 then ansAll own login disc offers ([], rec) else ([], rec)
def RA1 (offers rec : PL) (login : Bool) (w : World) (i : Value) (wr : World) : Prop :=
  ∃ k : Nat, k ≤ offers.length ∧ i = .int .i64 (k : Nat) ∧ Hid (∀ j, j < k → twiceK offers rec login j = false) ∧ Below w.heap.size w wr
def RA2 (own offers rec : PL) (login disc : Bool) (B g : Nat) (ov rv : Value) (w : World) (o i : Value) (wr : World) : Prop :=
  ∃ (k : Nat) (out r : PL) (rvk : Value), k ≤ offers.length ∧ i = .int .i64 (k : Nat) ∧ out.length ≤ k ∧ r.length ≤ rec.length + k ∧ wr.ownsRow w.heap.size 83 2 o out.length (pairCells out) ∧
    Blk wr g 105 #[ov, rvk] ∧ wr.ownsRow B 83 2 rvk r.length (pairCells r) ∧ (rvk.ownBlock = rv.ownBlock ∨ ∃ q, rvk.ownBlock = some q ∧ w.heap.size ≤ q) ∧
    (∀ q, o.ownBlock = some q → rvk.ownBlock ≠ some q) ∧ Hid (ansAll own login disc offers ([], rec) = ansAll own login disc (offers.drop k) (out, r)) ∧ KeptS (SN g rv) w wr
def NAnsPost (own offers rec : PL) (login disc : Bool) (B g : Nat) (ov rv : Value) (w : World) (e : Ending) (w' : World) : Prop :=
  (∃ v er rv', e = .returned (.tuple #[v, er]) ∧ ErrIs w' er (offP offers rec login).1 (offP offers rec login).2 ∧ w'.ownsRow w.heap.size 83 2 v (outP own offers rec login disc).1.length (pairCells (outP own offers rec login disc).1) ∧
    NegoS w' B g ov rv' own (outP own offers rec login disc).2 ∧ (rv'.ownBlock = rv.ownBlock ∨ ∃ q, rv'.ownBlock = some q ∧ w.heap.size ≤ q)) ∧ KeptS (SN g rv) w w'
section
variable (own offers rec : PL) (login disc : Bool) (B g : Nat) (ov rv v : Value) (w : World) (hN : NegoS w B g ov rv own rec) (hB : B ≤ w.heap.size) (h : PSl w v offers) (hfar : FarO v offers (SN g rv))
  (hbd : PBd offers) (hn : (pairsR offers).1 = 0 → offers.length ≤ 60 ∧ ∀ k, (offers.getD k ([], [])).2.length ≤ 100000) (hcap : ∀ a c, v = .slice a offers.length c → offers.length ≤ c) (hrl : rec.length ≤ 1000000)
  (hol : own.length ≤ 1000000) (hsz : ∀ k, (own.getD k ([], [])).2.length ≤ 100000) (hT : AS w) (hev : EV w) (hP : PT w) (hAS : ∀ w', KeptS (SN g rv) w w' → AS w' ∧ EV w' ∧ PT w')
include hN hB h hfar hbd hn hcap hrl hol hsz hT hev hP hAS
set_option maxHeartbeats 16000000 in
theorem nAnswer_all : Calls Tryz.prog 20 #[.pointer (some ⟨g, 0, none⟩), v, .bool login, .bool disc] w fun e w' => NAnsPost own offers rec login disc B g ov rv w e w' := by
  have cp := hid (pairsRight_any v offers w h hbd)
  unfold PRightPost at cp
  by_cases hp0 : (pairsR offers).1 ≠ 0
  · have HE := hid (offP_pairs offers rec login hp0)
    have HO := hid (show outP own offers rec login disc = ([], rec) by unfold outP; rw [HE.out, if_neg hp0])
    go_enter Tryz.func20, Tryz.ntmps20
    go_wp2_with fail
    refine cp.out.mono ?_
    rintro e w1 ⟨⟨er, rfl, her⟩, hb1⟩
    obtain ⟨T, x, rfl⟩ := errOf_pos her hp0
    clear hp0
    go_wp2
    go_ret2
    refine ⟨⟨_, _, rv, rfl, by rw [HE.out]; exact her, by rw [HO.out]; exact World.ownsRow_nil _ _ _ _, by rw [HO.out]; exact hN.below hb1, .inl rfl⟩, (KeptS.refl _ _).below hb1⟩
  · have hp0' : (pairsR offers).1 = 0 := Classical.byContradiction hp0
    have hn60 := hn hp0'
    have HAT := hid (fun k hk hb ha => offP_at offers rec login k hp0' hk hb ha)
    have HGD := hid (fun ha => offP_good offers rec login hp0' ha)
    rw [hp0'] at cp
    have hF := h
    obtain ⟨sa, sc, rfl, _, _⟩ := hF
    have hcs := hcap _ _ rfl
    have HS := hid h
    have cf1 := fun k W (hb : Below w.heap.size w W) (hk : k ≤ offers.length) (key : List UInt8) => hid (find_any (.slice sa k sc) (offers.take k) key W (psl_take (n := offers.length) (c := sc) (h.below hb) k hk sc) (by rw [List.length_take]; omega))
    have cf2 := fun W (hb : Below w.heap.size w W) (key : List UInt8) => hid (find_any rv rec key W (psl_of_owns (owns_below hN.hrv hb)) (by omega))
    unfold PFindPost at cf1 cf2
    have HN := hid hN
    have hgl := hN.blk.lt
    have n1 := hN.blk.cell 1
    simp only [List.getElem?_toArray, List.getElem?_cons_zero, List.getElem?_cons_succ] at n1
    clear hN hp0 hp0' hcap hn h
    go_enter Tryz.func20, Tryz.ntmps20
    go_wp2_with fail
    refine cp.out.mono ?_
    rintro e w1 ⟨⟨er, rfl, her⟩, hb1⟩
    obtain rfl := errOf_zero her rfl
    clear her cp
    go_wp2
    go_loopw [29] (fun i wr => RA1 offers rec login w i wr) (fun i _ => offers.length - (intOf i).toNat)
    case atStart => exact ⟨0, by omega, rfl, hid (fun j hj => absurd hj (by omega)), hb1⟩
    case round =>
      obtain ⟨k, hk, rfl, HA, hb⟩ := hrel
      have hBz := hb.size
      by_cases hlt : k < offers.length
      · obtain ⟨_, b, o, c, hveq, hbl, hcell⟩ := (HS.out.below hb).open_.resolve_left (by rintro ⟨rfl, _⟩; simp at hlt)
        cases hveq
        obtain ⟨g0, g1⟩ := hcell k hlt
        have HAT := hid (fun hb0 => HAT.out k hlt hb0 HA.out)
        have HBK := hid (show twiceK offers rec login k = (((findP (offers.take k) (offers.getD k ([], [])).1).2) || ((findP rec (offers.getD k ([], [])).1).2 && login)) by unfold twiceK; rw [findP_has, findP_has])
        have cf1 := fun W hb => cf1 k W hb hk (offers.getD k ([], [])).1
        have cf2 := fun W hb => cf2 W hb (offers.getD k ([], [])).1
        have HST := hid (fun (ht : twiceK offers rec login k = false) => show ∀ j, j < k + 1 → twiceK offers rec login j = false from fun j hj => by
          rcases Nat.lt_or_ge j k with h' | h'
          · exact HA.out j h'
          · obtain rfl : j = k := by omega
            exact ht)
        clear hcell HA
        generalize offers.getD k ([], []) = x at *
        obtain ⟨x1, x2⟩ := x
        simp only at *
        obtain ⟨W6, hW6⟩ : ∃ W6, wr.alloc (.cells #[.string (bs x1), .string (bs x2)] 83) = W6 := ⟨_, rfl⟩
        have hA6 : Below wr.heap.size wr W6 := by rw [← hW6]; exact (Below.refl _ _).alloc (Nat.le_refl _) _
        have b6 := hb.trans (hA6.mono hBz)
        have p0 : W6.cell? ⟨wr.heap.size, 0, none⟩ = some (.string (bs x1)) := by rw [← hW6]; simp
        have p1 : W6.cell? ⟨wr.heap.size, 1, none⟩ = some (.string (bs x2)) := by rw [← hW6]; simp
        have hlt6 : wr.heap.size < W6.heap.size := by rw [← hW6]; simp
        have n1 := (b6.cell (p := ⟨g, 1, none⟩) hgl).trans n1
        generalize findP (offers.take k) x1 = fp at *
        obtain ⟨f1, f2⟩ := fp
        generalize findP rec x1 = fq at *
        obtain ⟨q1, q2⟩ := fq
        simp only at *
        have hk64 : (k : Int) ≤ (sc : Int) := by omega
        go_upto_region 7 with fail
        go_cut [13, 14] (fun s7 s8 wx => s7 = .string (bs f1) ∧ s8 = .bool f2 ∧ Below W6.heap.size W6 wx)
        case first =>
          go_region_with first
            | (go_at_call 31; refine (cf1 _ b6.drew).out.mono ?_; rintro e w7 ⟨rfl, hb7⟩)
          all_goals
            go_wp2_with fail
            go_meet
            exact ⟨rfl, rfl, (Below.refl _ _).drew.trans hb7⟩
        case rest =>
          obtain ⟨rfl, rfl, hb7⟩ := hcut
          have b7 := b6.trans (hb7.mono b6.size)
          have p0 := (hb7.cell (p := ⟨wr.heap.size, 0, none⟩) hlt6).trans p0
          have n1 := (b7.cell (p := ⟨g, 1, none⟩) hgl).trans ((b6.cell (p := ⟨g, 1, none⟩) hgl).symm.trans n1)
          clear cf1
          rename World => w7c
          go_upto_region 8 with fail
          go_cut [15, 16] (fun s7 s8 wx => s7 = .string (bs q1) ∧ s8 = .bool q2 ∧ Below w7c.heap.size w7c wx)
          case first =>
            go_region_with first
              | (go_at_call 31; refine (cf2 _ b7.drew).out.mono ?_; rintro e w8 ⟨rfl, hb8⟩)
            all_goals
              go_wp2_with fail
              go_meet
              exact ⟨rfl, rfl, (Below.refl _ _).drew.trans hb8⟩
          case rest =>
            obtain ⟨rfl, rfl, hb8⟩ := hcut
            have b8 := b7.trans (hb8.mono b7.size)
            by_cases htw : (f2 || (q2 && login)) = true
            · have HE := hid (show offP offers rec login = (9, (k : Int)) from HAT.out (by rw [HBK.out, htw]))
              have HO := hid (show outP own offers rec login disc = ([], rec) by unfold outP; rw [HE.out]; rfl)
              clear HAT HST HGD HBK cf2
              have hcs3 : f2 = true ∨ (f2 = false ∧ q2 = true ∧ login = true) := by
                cases f2
                · cases q2
                  · simp at htw
                  · cases login
                    · simp at htw
                    · exact .inr ⟨rfl, rfl, rfl⟩
                · exact .inl rfl
              clear htw
              rcases hcs3 with rfl | ⟨rfl, rfl, rfl⟩
              all_goals
                go_wp2
                go_ret2
                refine ⟨⟨_, _, rv, rfl, by rw [HE.out]; exact .at_ 9 (by omega) _ wc.heap.size (by simp) (by simp), by rw [HO.out]; exact World.ownsRow_nil _ _ _ _, by rw [HO.out]; exact HN.out.below (b8.alloc b8.size _), .inl rfl⟩, (KeptS.refl _ _).below (b8.alloc b8.size _)⟩
            · have hS := hid (HST.out (show twiceK offers rec login k = false by rw [HBK.out]; exact Bool.eq_false_iff.2 htw))
              clear HAT HST HGD HBK cf2
              have hcs3 : f2 = false ∧ (q2 = false ∨ (q2 = true ∧ login = false)) := by
                cases f2
                · cases q2
                  · exact ⟨rfl, .inl rfl⟩
                  · cases login
                    · exact ⟨rfl, .inr ⟨rfl, rfl⟩⟩
                    · simp at htw
                · simp at htw
              clear htw
              obtain ⟨rfl, hq⟩ := hcs3
              rcases hq with rfl | ⟨rfl, rfl⟩
              all_goals
                go_wp2
                exact ⟨⟨k + 1, by omega, by go_num, hid hS.out, b8⟩, by simp [intOf]; omega⟩
      · obtain rfl : k = offers.length := by omega
        have HE := hid (HGD.out HA.out)
        have HO := hid (show outP own offers rec login disc = ansAll own login disc offers ([], rec) by unfold outP; rw [HE.out]; rfl)
        have hmf : ∀ (fn : Fn) (first cap : Array Value) (w : World), (Instr.makeFunc fn first cap).run Tryz.prog w = .ok (.func fn first cap) w := fun _ _ _ _ => rfl
        have HK0 := hid ((KeptS.refl (SN g rv) w).below hb)
        have HB0 := hid (HN.out.blk.below hb)
        have HR0 := hid (owns_below HN.out.hrv hb)
        have hlt2 : ¬ ((offers.length : Int) < (offers.length : Int)) := by omega
        clear HAT HGD HA cf1 cf2 n1 hb hBz hlt hk hb1
        rename World => wo
        go_wp2
        go_loopw [17, 67] (fun o i wr => RA2 own offers rec login disc B g ov rv w o i wr) (fun _ i _ => offers.length - (intOf i).toNat)
        case atStart => exact ⟨0, [], rec, rv, by omega, rfl, by simp, by omega, World.ownsRow_nil _ _ _ _, HB0.out, HR0.out, .inl rfl, fun q hq => by simp [Value.ownBlock] at hq, hid rfl, HK0.out⟩
        case round =>
          obtain ⟨k, out, r, rvk, hk, rfl, hol1, hrl1, hown, hBk, hRk, hrb, hap, HX, HK⟩ := hrel
          clear HB0 HR0 HK0 hlt2
          have hwz := HK.size
          by_cases hlt : k < offers.length
          · obtain ⟨_, b, o, c, hveq, hbl, hcell⟩ := (HS.out.kept hfar HK).open_.resolve_left (by rintro ⟨rfl, _⟩; simp at hlt)
            cases hveq
            obtain ⟨g0, g1⟩ := hcell k hlt
            have hx1 := (hbd.2 k).1
            have hx2 := hn60.2 k
            have HDR := hid ((ansAll_drop own login disc offers k (out, r) hlt))
            clear hcell
            generalize offers.getD k ([], []) = x at *
            obtain ⟨x1, x2⟩ := x
            simp only at *
            have hgw := hgl
            obtain ⟨W6, hW6⟩ : ∃ W6, wr.alloc (.cells #[.string (bs x1), .string (bs x2)] 83) = W6 := ⟨_, rfl⟩
            have hA6 : Below wr.heap.size wr W6 := by rw [← hW6]; exact (Below.refl _ _).alloc (Nat.le_refl _) _
            have p0 : W6.cell? ⟨wr.heap.size, 0, none⟩ = some (.string (bs x1)) := by rw [← hW6]; simp
            have p1 : W6.cell? ⟨wr.heap.size, 1, none⟩ = some (.string (bs x2)) := by rw [← hW6]; simp
            have K6 := HK.below hA6
            have hrg : rvk.ownBlock ≠ some g := by
              rcases hrb with h | ⟨q, h, hq⟩
              · rw [h]; exact HN.out.sg
              · rw [h]; intro e; cases e; omega
            have S6 : NSt 105 w rv ov B g wr.heap.size x1 x2 W6 rvk r u17 out :=
              ⟨hBk.below hA6, by rw [← hW6]; exact Blk.new _ _ _, owns_below hRk hA6, owns_below hown hA6, hrb, hap, fun e => by have := (hRk.lt _ e).2; omega, fun e => by have := (hown.lt _ e).2; omega, hrg, hgl, by omega, K6⟩
            obtain ⟨as6, ev6, pt6⟩ := hAS _ K6
            have cA := hid (nAnswer_any g ov rvk own x1 x2 login disc W6 (hBk.below hA6) ((HN.out.hov.kept HN.out.so K6)) (by omega) hx1 hx2 hsz as6 ev6 pt6)
            have HX2 := hid (HX.out.trans HDR.out)
            have HS6 := hid S6
            clear K6 hown hBk hRk HK hap hrb HX HDR hA6 as6 ev6 pt6 S6 hrg
            generalize ansP own (x1, x2) login disc = A at *
            obtain ⟨a1, a2⟩ := A
            simp only [recP] at cA HX2
            by_cases h1 : a1 = []
            · have e1 : (a1 == []) = true := by rw [h1]; rfl
              rw [if_pos h1] at HX2
              clear h1
              by_cases h2 : a2 = []
              · have e2 : (a2 == []) = true := by rw [h2]; rfl
                rw [if_pos h2] at HX2
                clear h2
                go_wp2_with fail
                refine cA.out.mono ?_
                rintro e w7 ⟨rfl, hb7⟩
                have S7 := hid (HS6.out.below hb7)
                clear HS6
                go_wp2
                exact ⟨⟨k + 1, out, r, rvk, by omega, by go_num, by first | omega | (simp; omega), by omega, S7.out.hO, S7.out.bN, S7.out.hR, S7.out.rb, S7.out.ap, hid HX2.out, S7.out.K⟩, by simp [intOf]; omega⟩
              · have e2 : (a2 == []) = false := beq_eq_false_iff_ne.2 h2
                rw [if_neg h2] at HX2
                clear h2
                go_wp2_with fail
                refine cA.out.mono ?_
                rintro e w7 ⟨rfl, hb7⟩
                have S7 := hid (HS6.out.below hb7)
                clear HS6
                have cD := hid (delete_v B wr.heap.size rvk r x1 w7 S7.out.hR (by omega) (S7.out.bP.cell 0) S7.out.pR)
                have n1 : w7.cell? ⟨g, 1, none⟩ = some rvk := S7.out.bN.cell 1
                go_wp2_with fail
                refine cD.out.mono ?_
                rintro e w9 ⟨rv1, rfl, hown9, hg9, hb9⟩
                obtain ⟨A1, c1, rfl⟩ := own_slice hown9
                have S9 := S7.out.del hg9 hown9 hb9
                have HS9 := hid S9.1
                have n1 : w9.cell? ⟨g, 1, none⟩ = some rvk := S9.2.cell 1
                have f1 : w9.frozen? ⟨g, 1, none⟩ = false := S9.2.free 1
                have hwl : (without r x1).length ≤ r.length := List.length_filter_le _ _
                clear S9 hown9 hg9 hb9 cD
                go_wp2_with fail
                generalize hW10 : w9.setCell ⟨g, 1, none⟩ (.slice A1 (without r x1).length c1) = W10 at *
                have hz10 := HS9.out.wW
                have n10 : W10.cell? ⟨g, 1, none⟩ = some (.slice A1 (without r x1).length c1) := HS9.out.bN.cell 1
                have p10 : W10.cell? ⟨wr.heap.size, 0, none⟩ = some (.string (bs x1)) := HS9.out.bP.cell 0
                have f10 : W10.frozen? ⟨g, 1, none⟩ = false := HS9.out.bN.free 1
                have hgW := HS9.out.bN.lt
                have hpW := HS9.out.bP.lt
                clear hW10 n1 f1
                go_region_law (refine step_append_at rfl (.tmp 103) (.tmp 108) 28 rfl B 83 (.agg #[.string ⟨#[]⟩, .string ⟨#[]⟩]) 2 32 Tryz.underlying28 infoPair rfl (by decide) (.slice A1 (without r x1).length c1) (without r x1).length (pairCells (without r x1)) (by simp [Act.eval]) (HS9.out.hR.alloc _) ⟨W10.heap.size, 0, none⟩ 1 1 [.string (bs x1), .string (bs a2)] (by simp [Act.eval]) rfl (cell_two_new _ _ _ _) (by simp [Value.oneCell']) (by unfold maxLen; omega) (by omega) (by simp; omega) ?_; intro rv2 w11 hown11 hgrow11 hat11; have S11 := HS9.out.recd (by first | exact (Below.refl _ _).alloc (Nat.le_refl _) _ | exact ((Below.refl _ _).alloc (Nat.le_refl _) _).drew | exact (Below.refl _ _).drew.alloc (Nat.le_refl _) _) (by simp) hgrow11 hown11 hat11; have HS11 := hid S11.1; have n11 : w11.cell? ⟨g, 1, none⟩ = some (.slice A1 (without r x1).length c1) := S11.2.cell 1; have f11 : w11.frozen? ⟨g, 1, none⟩ = false := S11.2.free 1; obtain ⟨A2, c2, rfl⟩ := own_slice hown11; clear S11 hown11 hgrow11 hat11)
                all_goals
                  go_wp2
                  exact ⟨⟨k + 1, out, without r x1 ++ [(x1, a2)], _, by omega, by go_num, by first | omega | (simp; omega), by rw [List.length_append]; simp only [List.length_cons, List.length_nil]; omega, HS11.out.hO, HS11.out.bN, HS11.out.hR, HS11.out.rb, HS11.out.ap, hid HX2.out, HS11.out.K⟩, by simp [intOf]; omega⟩
            · have e1 : (a1 == []) = false := beq_eq_false_iff_ne.2 h1
              rw [if_neg h1] at HX2
              clear h1
              by_cases h2 : a2 = []
              · have e2 : (a2 == []) = true := by rw [h2]; rfl
                rw [if_pos h2] at HX2
                clear h2
                go_wp2_with fail
                refine cA.out.mono ?_
                rintro e w7 ⟨rfl, hb7⟩
                have S7 := hid (HS6.out.below hb7)
                clear HS6
                have p0 : w7.cell? ⟨wr.heap.size, 0, none⟩ = some (.string (bs x1)) := S7.out.bP.cell 0
                have p1 : w7.cell? ⟨wr.heap.size, 1, none⟩ = some (.string (bs x2)) := S7.out.bP.cell 1
                have hz7 := S7.out.wW
                go_wp2_with (at_builtin; refine list_append_at rfl (.tmp 81) (.tmp 86) 28 rfl w.heap.size 83 (.agg #[.string ⟨#[]⟩, .string ⟨#[]⟩]) 2 32 Tryz.underlying28 infoPair rfl (by decide) _ out.length (pairCells out) rfl (S7.out.hO.alloc _) ⟨w7.heap.size, 0, none⟩ 1 1 [.string (bs x1), .string (bs a1)] rfl rfl (cell_two_new _ _ _ _) (by simp [Value.oneCell']) (by unfold maxLen; omega) (by omega) (by simp; omega) ?_; intro v' w8 hown8 hgrow hat; have S8 := hid (NSt.app (a1 := a1) S7.out hgrow hown8 hat); have hz8 := S8.out.wW; have n1 : w8.cell? ⟨g, 1, none⟩ = some rvk := S8.out.bN.cell 1; clear hown8 hgrow hat p0 p1)
                exact ⟨⟨k + 1, out ++ [(x1, a1)], r, rvk, by omega, by go_num, by first | omega | (simp; omega), by omega, S8.out.hO, S8.out.bN, S8.out.hR, S8.out.rb, S8.out.ap, hid HX2.out, S8.out.K⟩, by simp [intOf]; omega⟩
              · have e2 : (a2 == []) = false := beq_eq_false_iff_ne.2 h2
                rw [if_neg h2] at HX2
                clear h2
                go_wp2_with fail
                refine cA.out.mono ?_
                rintro e w7 ⟨rfl, hb7⟩
                have S7 := hid (HS6.out.below hb7)
                clear HS6
                have p0 : w7.cell? ⟨wr.heap.size, 0, none⟩ = some (.string (bs x1)) := S7.out.bP.cell 0
                have p1 : w7.cell? ⟨wr.heap.size, 1, none⟩ = some (.string (bs x2)) := S7.out.bP.cell 1
                have hz7 := S7.out.wW
                go_wp2_with (at_builtin; refine list_append_at rfl (.tmp 81) (.tmp 86) 28 rfl w.heap.size 83 (.agg #[.string ⟨#[]⟩, .string ⟨#[]⟩]) 2 32 Tryz.underlying28 infoPair rfl (by decide) _ out.length (pairCells out) rfl (S7.out.hO.alloc _) ⟨w7.heap.size, 0, none⟩ 1 1 [.string (bs x1), .string (bs a1)] rfl rfl (cell_two_new _ _ _ _) (by simp [Value.oneCell']) (by unfold maxLen; omega) (by omega) (by simp; omega) ?_; intro v' w8 hown8 hgrow hat; have S8 := hid (NSt.app (a1 := a1) S7.out hgrow hown8 hat); have hz8 := S8.out.wW; have n1 : w8.cell? ⟨g, 1, none⟩ = some rvk := S8.out.bN.cell 1; clear hown8 hgrow hat p0 p1)
                have cD := hid (delete_v B wr.heap.size rvk r x1 w8 S8.out.hR (by omega) (S8.out.bP.cell 0) S8.out.pR)
                have n1 : w8.cell? ⟨g, 1, none⟩ = some rvk := S8.out.bN.cell 1
                refine cD.out.mono ?_
                rintro e w9 ⟨rv1, rfl, hown9, hg9, hb9⟩
                obtain ⟨A1, c1, rfl⟩ := own_slice hown9
                have S9 := S8.out.del hg9 hown9 hb9
                have HS9 := hid S9.1
                have n1 : w9.cell? ⟨g, 1, none⟩ = some rvk := S9.2.cell 1
                have f1 : w9.frozen? ⟨g, 1, none⟩ = false := S9.2.free 1
                have hwl : (without r x1).length ≤ r.length := List.length_filter_le _ _
                clear S9 hown9 hg9 hb9 cD
                go_wp2_with fail
                generalize hW10 : w9.setCell ⟨g, 1, none⟩ (.slice A1 (without r x1).length c1) = W10 at *
                have hz10 := HS9.out.wW
                have n10 : W10.cell? ⟨g, 1, none⟩ = some (.slice A1 (without r x1).length c1) := HS9.out.bN.cell 1
                have p10 : W10.cell? ⟨wr.heap.size, 0, none⟩ = some (.string (bs x1)) := HS9.out.bP.cell 0
                have f10 : W10.frozen? ⟨g, 1, none⟩ = false := HS9.out.bN.free 1
                have hgW := HS9.out.bN.lt
                have hpW := HS9.out.bP.lt
                clear hW10 n1 f1
                go_region_law (refine step_append_at rfl (.tmp 103) (.tmp 108) 28 rfl B 83 (.agg #[.string ⟨#[]⟩, .string ⟨#[]⟩]) 2 32 Tryz.underlying28 infoPair rfl (by decide) (.slice A1 (without r x1).length c1) (without r x1).length (pairCells (without r x1)) (by simp [Act.eval]) (HS9.out.hR.alloc _) ⟨W10.heap.size, 0, none⟩ 1 1 [.string (bs x1), .string (bs a2)] (by simp [Act.eval]) rfl (cell_two_new _ _ _ _) (by simp [Value.oneCell']) (by unfold maxLen; omega) (by omega) (by simp; omega) ?_; intro rv2 w11 hown11 hgrow11 hat11; have S11 := HS9.out.recd (by first | exact (Below.refl _ _).alloc (Nat.le_refl _) _ | exact ((Below.refl _ _).alloc (Nat.le_refl _) _).drew | exact (Below.refl _ _).drew.alloc (Nat.le_refl _) _) (by simp) hgrow11 hown11 hat11; have HS11 := hid S11.1; have n11 : w11.cell? ⟨g, 1, none⟩ = some (.slice A1 (without r x1).length c1) := S11.2.cell 1; have f11 : w11.frozen? ⟨g, 1, none⟩ = false := S11.2.free 1; obtain ⟨A2, c2, rfl⟩ := own_slice hown11; clear S11 hown11 hgrow11 hat11)
                all_goals
                  go_wp2
                  exact ⟨⟨k + 1, out ++ [(x1, a1)], without r x1 ++ [(x1, a2)], _, by omega, by go_num, by first | omega | (simp; omega), by rw [List.length_append]; simp only [List.length_cons, List.length_nil]; omega, HS11.out.hO, HS11.out.bN, HS11.out.hR, HS11.out.rb, HS11.out.ap, hid HX2.out, HS11.out.K⟩, by simp [intOf]; omega⟩
          · obtain rfl : k = offers.length := by omega
            have HY := hid (show outP own offers rec login disc = (out, r) by rw [HO.out, HX.out, ansAll_end own login disc offers offers.length (out, r) (Nat.le_refl _)])
            have HNS := hid (show NegoS wr B g ov rvk own r from ⟨hBk, HN.out.hov.kept HN.out.so HK, hRk, by
                rcases hrb with h | ⟨q, h, hq⟩
                · rw [h]; exact HN.out.sg
                · rw [h]; intro e; cases e; omega, by
                rcases hrb with h | ⟨q, h, hq⟩
                · rw [h]; exact HN.out.so
                · rcases FarO.lt HN.out.hov with h0 | ⟨b', o', n', c', hv, hlt'⟩
                  · exact .inl h0
                  · rcases HN.out.so with h0 | ⟨b2, o2, n2, c2, hv2, hn2⟩
                    · exact .inl h0
                    · rw [hv] at hv2
                      cases hv2
                      refine .inr ⟨b', o', n', c', hv, fun hs => ?_⟩
                      rcases hs with hs | hs
                      · exact hn2 (.inl hs)
                      · rw [h] at hs; cases hs; omega⟩)
            have HOW := hid hown
            have HKK := hid HK
            have HRB := hid hrb
            have hlt3 : ¬ ((offers.length : Int) < (offers.length : Int)) := by omega
            clear hown hBk hRk hap HK hrb hlt hk HX HO HS
            go_wp2
            go_ret2
            exact ⟨⟨_, _, rvk, rfl, by rw [HE.out]; exact .nil, by rw [HY.out]; exact HOW.out, by rw [HY.out]; exact HNS.out, HRB.out⟩, HKK.out⟩
end
end Go.Proofs.YtbimlijhgeajjaaGreatDoor

namespace Go.Proofs.YtbimlijhgeajjaaGreatDoor
open Go Go.RowKit
set_option linter.unusedVariables false
set_option linter.unusedSectionVars false
set_option linter.unusedSimpArgs false
set_option maxRecDepth 100000
/-- the longest text that is looked for at once: some number -/
def ML (w : World) : Prop := ∃ m, w.cell? ⟨3, 0, none⟩ = some (.int .i64 m)
theorem ML.below {w w' : World} (h : ML w) (hb : Below w.heap.size w w') : ML w' := by
  obtain ⟨m, hm⟩ := h
  exact ⟨m, (hb.cell (p := ⟨3, 0, none⟩) (block_lt_of_cell hm)).trans hm⟩
theorem ml_of_shaped {w : World} (h : w.ShapedOpen Tryz.prog) : ML w := Tryz.laysM144.s1_3 w h
theorem contains_any (s sub : List UInt8) (w : World) (hs : s.length ≤ 1000000) (hm : ML w) :
    Calls Tryz.prog 89 #[.string (bs s), .string (bs sub)] w fun e w' => e = .returned (.bool (Lib.contains s sub)) ∧ w = w' := by
  obtain ⟨m, hm⟩ := hm
  refine (Tryz.strings_Contains (bs s) (bs sub) m w (by rw [bs_size]; omega) hm).mono ?_
  rintro e w' ⟨rfl, rfl⟩
  exact ⟨rfl, rfl⟩
section
variable (name offer own : List UInt8) (w : World) (h1 : offer.length ≤ 100000) (h2 : own.length ≤ 100000)
include h1 h2
set_option maxHeartbeats 8000000 in
theorem rresult_any (hP : PT w) (hM : ML w) : Calls Tryz.prog 45 #[.string (bs name), .string (bs offer), .string (bs own)] w fun e w' =>
    e = .returned (.tuple #[.string (bs (resP name offer own).1), .int .i64 ((resP name offer own).2 : Nat)]) ∧ Below w.heap.size w w' := by
  have cf1 := hid (rfits_any name offer w h1)
  have cf2 := fun w1 => hid (rfits_any name own w1 h2)
  have hbad1 := hid (fun h => @resP_bad1 name offer own h)
  have hbad2 := hid (fun ha h => @resP_bad2 name offer own ha h)
  have hgood := hid (fun ha h => @resP_good name offer own ha h)
  have co := fun w1 => hid (keyOf_any name w1)
  have cn1 := fun w1 => hid (rnumeral_any offer w1 (by omega))
  have cn2 := fun w1 => hid (rnumeral_any own w1 (by omega))
  have cs := fun w1 => hid (split1_any 44 offer w1 (by omega))
  have cc := fun s sub w1 hs (hb : Below w.heap.size w w1) => hid (contains_any s sub w1 hs (hM.below hb))
  have ci := fun n h0 h3 w1 (hb : Below w.heap.size w w1) => hid (itoa_any n h0 h3 w1 (hP.below hb (Nat.le_refl _)))
  generalize resP name offer own = R at *
  generalize hF1 : fitsP name offer = F1 at *
  generalize hF2 : fitsP name own = F2 at *
  clear hF1 hF2 hP hM
  have hb0 := Below.refl w.heap.size w
  go_enter Tryz.func45, Tryz.ntmps45
  go_wp2_with fail
  refine cf1.out.mono ?_
  rintro e w1 ⟨rfl, hb1⟩
  by_cases hf1 : F1 = 0
  · subst hf1
    go_wp2_with fail
    refine (cf2 _).out.mono ?_
    rintro e w2 ⟨rfl, hb2⟩
    have hb2 := hb1.trans (hb2.mono hb1.size)
    by_cases hf2 : F2 = 0
    · subst hf2
      obtain ⟨k, hfk, hkm, hk1, hk2, hR⟩ := hgood.out (by first | exact rfl | trivial) (by first | exact rfl | trivial)
      clear hgood hbad1 hbad2
      rw [hfk] at co
      simp only [keyVal, keyErr, KR.cells] at co
      go_wp2_with fail
      refine (co _).out.mono ?_
      rintro e w3 ⟨rfl, hb3⟩
      have hb3 := hb2.trans (hb3.mono hb2.size)
      have hK3 := Blk.new w3 125 #[.string (bs k.name), .int .i64 (dnum k.lk : Int), .int .i64 (dnum k.ll : Int), .int .i64 (dnum k.lh : Int), .string (bs k.dv), .bool (k.no == [78]), .bool (k.lo == [76])]
      have hb4 := hb3.alloc hb3.size (.cells #[.string (bs k.name), .int .i64 (dnum k.lk : Int), .int .i64 (dnum k.ll : Int), .int .i64 (dnum k.lh : Int), .string (bs k.dv), .bool (k.no == [78]), .bool (k.lo == [76])] 125)
      have hkc : (w3.alloc (.cells #[.string (bs k.name), .int .i64 (dnum k.lk : Int), .int .i64 (dnum k.ll : Int), .int .i64 (dnum k.lh : Int), .string (bs k.dv), .bool (k.no == [78]), .bool (k.lo == [76])] 125)).cell? ⟨w3.heap.size, 1, none⟩ = some (.int .i64 (dnum k.lk : Int)) := (hK3.cell 1).trans rfl
      clear hK3
      have hk7 := kinds_seven k hkm
      have hRk := hR
      unfold resK at hRk
      have Hy1 := hid (fun h => @fits_yn k offer h hk1)
      have Hy2 := hid (fun h => @fits_yn k own h hk2)
      have Hm1 := hid (fun h => @fits_num k offer h hk1)
      have Hm2 := hid (fun h => @fits_num k own h hk2)
      change R = if k.kind = 1 then _ else _ at hRk
      have HRK := hid hRk
      have hsl : (⟨#[47]⟩ : ByteArray) = bs [47] := rfl
      have hcm : (⟨#[44]⟩ : ByteArray) = bs [44] := rfl
      clear hR hRk hk1 hk2 co cf1 cf2 hb1 hb2 hb3
      have hkk : dnum k.lk = k.kind := rfl
      rw [hkk] at hkc hk7 hb4 ⊢
      generalize k.kind = K at *
      rcases hk7 with rfl | rfl | rfl | rfl | rfl | rfl | rfl
      · rcases Hy1.out (.inl rfl) with rfl | rfl <;> rcases Hy2.out (.inl rfl) with rfl | rfl
        all_goals
          go_wp2
          go_ret2
          exact ⟨by rw [HRK.out]; rfl, hb4⟩
      · rcases Hy1.out (.inr rfl) with rfl | rfl <;> rcases Hy2.out (.inr rfl) with rfl | rfl
        all_goals
          go_wp2
          go_ret2
          exact ⟨by rw [HRK.out]; rfl, hb4⟩
      · obtain ⟨a, ha, hao, hab⟩ := Hm1.out (.inl rfl)
        obtain ⟨b, hb, hbo, hbb⟩ := Hm2.out (.inl rfl)
        rw [ha] at cn1
        rw [hb] at cn2
        simp only [numI] at cn1 cn2
        go_wp2_with fail
        refine (cn1 _).out.mono ?_
        rintro e w5 ⟨rfl, hb5⟩
        have hb5 := hb4.trans (hb5.mono hb4.size)
        go_wp2_with fail
        refine (cn2 _).out.mono ?_
        rintro e w6 ⟨rfl, hb6⟩
        have hb6 := hb5.trans (hb6.mono hb5.size)
        go_wp2_with fail
        refine (ci _ (by omega) (by omega) _ hb6).out.mono ?_
        rintro e w7 ⟨rfl, hb7⟩
        go_wp2
        go_ret2
        refine ⟨?_, hb6.trans (hb7.mono hb6.size)⟩
        rw [HRK.out, hao, hbo]
        first | done | rfl | (simp; done) | (simp; rfl)
      · obtain ⟨a, ha, hao, hab⟩ := Hm1.out (.inr rfl)
        obtain ⟨b, hb, hbo, hbb⟩ := Hm2.out (.inr rfl)
        rw [ha] at cn1
        rw [hb] at cn2
        simp only [numI] at cn1 cn2
        go_wp2_with fail
        refine (cn1 _).out.mono ?_
        rintro e w5 ⟨rfl, hb5⟩
        have hb5 := hb4.trans (hb5.mono hb4.size)
        go_wp2_with fail
        refine (cn2 _).out.mono ?_
        rintro e w6 ⟨rfl, hb6⟩
        have hb6 := hb5.trans (hb6.mono hb5.size)
        go_wp2_with fail
        refine (ci _ (by omega) (by omega) _ hb6).out.mono ?_
        rintro e w7 ⟨rfl, hb7⟩
        go_wp2
        go_ret2
        refine ⟨?_, hb6.trans (hb7.mono hb6.size)⟩
        rw [HRK.out, hao, hbo]
        first | done | rfl | (simp; done) | (simp; rfl)
      · have hr := HRK.out
        simp at hr
        have hn1 : (splitL 44 offer).length ≤ 1000000 := by rw [splitL_length]; have := List.count_le_length (a := (44 : UInt8)) (l := offer); omega
        have hsz := fun x hx => splitL_mem 44 offer x hx
        have hfr := fun x hx => split_free 44 offer.length offer (Nat.le_refl _) x hx
        have hcw := fun x hx => contains_word own x hx
        have HAC := hid (fun W => arr_cell W (splitL 44 offer))
        have HSZ := hid hsz; have HFR := hid hfr; have HCW := hid hcw
        clear HRK hsz hfr hcw
        generalize splitL 44 offer = L at *
        generalize splitL 44 own = H at *
        go_wp2_with fail
        refine (cs _).out.mono ?_
        rintro e w8 ⟨rfl, rfl⟩
        have hb9 := hb4.alloc hb4.size (.cells (sArr L) 9)
        have had := HAC.out (w3.alloc (.cells #[.string (bs k.name), .int .i64 ((5 : Nat) : Int), .int .i64 (dnum k.ll : Int), .int .i64 (dnum k.lh : Int), .string (bs k.dv), .bool (k.no == [78]), .bool (k.lo == [76])] 125))
        have hs3 : (w3.alloc (.cells #[.string (bs k.name), .int .i64 ((5 : Nat) : Int), .int .i64 (dnum k.ll : Int), .int .i64 (dnum k.lh : Int), .string (bs k.dv), .bool (k.no == [78]), .bool (k.lo == [76])] 125)).heap.size = w3.heap.size + 1 := by simp
        simp only [hs3] at had
        have HAD := hid had
        clear had hs3
        have HR := hid hr
        clear hr HAC
        have HB9 := hid hb9; clear hb9
        generalize hW9 : (w3.alloc (.cells #[.string (bs k.name), .int .i64 ((5 : Nat) : Int), .int .i64 (dnum k.ll : Int), .int .i64 (dnum k.lh : Int), .string (bs k.dv), .bool (k.no == [78]), .bool (k.lo == [76])] 125)).alloc (.cells (sArr L) 9) = W9 at *
        clear hW9
        have hb9 := HB9.out
        go_wp2
        go_loopw [67] (fun i wr => RF H L W9 i wr) (fun i _ => L.length - (intOf i).toNat)
        case atStart => exact ⟨0, by omega, rfl, rfl, rfl⟩
        case round =>
          obtain ⟨q, hq, rfl, hst, rfl⟩ := hrel
          by_cases hlt : q < L.length
          · obtain ⟨x, hx⟩ : ∃ x, L[q]? = some x := ⟨L[q], List.getElem?_eq_getElem hlt⟩
            have hxm : x ∈ L := List.mem_of_getElem? hx
            have hcx := HAD.out q x hx
            have hxl := HSZ.out x hxm
            have hct := HCW.out x (HFR.out x hxm)
            rw [firstIn_step H L q x hx, ← hct] at hst
            have HST := hid hst
            clear hst hx hxm hct
            go_wp2_with fail
            refine (cc _ _ _ ?_ HB9.out).out.mono ?_
            · simp; omega
            rintro e w10 ⟨rfl, rfl⟩
            cases hcon : Lib.contains (44 :: (own ++ [44])) (44 :: (x ++ [44])) with
            | true =>
              have hrr : R = (x, 0) := by rw [HR.out, HST.out, hcon]; rfl
              clear hcon
              go_wp2
              go_ret2
              exact ⟨by rw [hrr]; rfl, HB9.out⟩
            | false =>
              have hst := HST.out
              rw [hcon] at hst
              have HS2 := hid (show firstIn H L = firstIn H (L.drop (q + 1)) by rw [hst]; rfl)
              clear hcon hst HST
              go_wp2
              go_roundw
              case rel => exact ⟨q + 1, by omega, by go_num, HS2.out, rfl⟩
              case measure => simp [intOf]; omega
          · obtain rfl : q = L.length := by omega
            have hrr : R = ([], 8) := by rw [HR.out, hst, firstIn_end _ _ _ (Nat.le_refl _)]
            clear hst
            go_wp2
            go_ret2
            exact ⟨by rw [hrr]; rfl, HB9.out⟩
      · go_wp2
        go_ret2
        exact ⟨by rw [HRK.out]; rfl, hb4⟩
      · go_wp2
        go_ret2
        exact ⟨by rw [HRK.out]; rfl, hb4⟩
    · have hRb := hbad2.out (by first | exact rfl | trivial) hf2
      go_wp2
      go_ret2
      exact ⟨by rw [hRb]; rfl, hb2⟩
  · have hRb := hbad1.out hf1
    go_wp2
    go_ret2
    exact ⟨by rw [hRb]; rfl, hb1⟩
end
end Go.Proofs.YtbimlijhgeajjaaGreatDoor
