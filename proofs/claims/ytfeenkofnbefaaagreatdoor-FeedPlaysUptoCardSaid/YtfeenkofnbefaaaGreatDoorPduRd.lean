/- The PDU that bytes begin with: by the program. -/
import Derived.Test.YtfeenkofnbefaaaGreatDoorPduSize
import Derived.Test.YtfeenkofnbefaaaGreatDoorGuard
set_option linter.unusedSectionVars false
set_option linter.unusedSimpArgs false
set_option linter.unusedVariables false
namespace Go.Proofs.YtfeenkofnbefaaaGreatDoor
open Go Go.RowKit
set_option linter.unusedVariables false
set_option linter.unusedSectionVars false
set_option linter.unusedSimpArgs false
set_option maxRecDepth 100000
def PduRdPost (R : RdP) (w : World) (e : Ending) (w' : World) : Prop :=
  ∃ v av, e = .returned (.tuple #[pduV R.op R.now R.flags v av R.data, .int .i64 R.all, errV 31 R.e]) ∧ Sl w' v 1 R.vals.length (u64Cells R.vals) ∧ Sl w' av 2 R.ahs.length (ahsCells R.ahs) ∧ Below w.heap.size w w'
theorem take_drop_sub (s : List UInt8) (a b k n : Nat) (hb : b = a + k) (hn : b ≤ n) : (s.take b).drop a = ((s.take n).drop a).take k := by
  subst hb
  rw [List.take_drop, List.take_take]
  congr 2
  omega
theorem read_len' (s : List UInt8) : (readH s).vals.length ≤ 12 := by
  unfold readH
  split
  · exact Nat.zero_le _
  · split
    · exact Nat.zero_le _
    · cases hf : findH (hOp s) with
      | none => exact Nat.zero_le _
      | some r =>
        have := (head_fine r (findH_mem hf)).2.2.2.2.2.2.1
        simp only [readO]
        split
        · exact Nat.zero_le _
        · split
          · exact Nat.zero_le _
          · simp [valsOf]; omega
theorem str_ab (l : List UInt8) (a b : Nat) (hab : a ≤ b) (hb : b ≤ l.length) (hL : l.length ≤ 1000000) (w : World) :
    (Instr.slice 9 (.string (bs l)) (some (.int .i64 (a : Int))) (some (.int .i64 (b : Int))) none).run Tryz.prog w = .ok (.string (bs ((l.take b).drop a))) w := by
  simp [go_sem]
  rw [if_pos (by omega), if_pos (by omega)]
def pduC (op : Int) (now : Bool) (fl : Int) (sa : Option Addr) (n c : Nat) (aa : Option Addr) (m k : Nat) (d : ByteArray) : Array Value := #[.int .i64 op, .bool now, .int .i64 fl, .slice sa n c, .slice aa m k, .string d]
theorem blk_off {W : World} {b b' : Nat} {t : TypeId} {cs : Array Value} (h : Blk W b' t cs) (i : Nat) (u : Value) (hn : b' ≠ b) : Blk (W.setCell ⟨b, i, none⟩ u) b' t cs := (Below.heap_setCell W ⟨b, i, none⟩ u b' hn).trans h
theorem sl_set {W : World} {v : Value} {size n : Nat} {xs : List Value} (h : Sl W v size n xs) (g i : Nat) (u : Value) (hd : ∀ b o c, v = .slice (some ⟨b, o, none⟩) n c → n ≠ 0 → b ≠ g) : Sl (W.setCell ⟨g, i, none⟩ u) v size n xs := by
  obtain ⟨a, c, rfl, hl, hc⟩ := h
  refine ⟨a, c, rfl, hl, ?_⟩
  rcases Nat.eq_zero_or_pos n with h0 | h0
  · exact .inl h0
  · rcases hc with hc | ⟨b, o, rfl, hc⟩
    · omega
    · right
      have hn := hd b o c rfl (by omega)
      exact ⟨b, o, rfl, fun j x hx => (World.cell?_setCell_far _ _ _ _ (fun e => hn e.symm)).trans (hc j x hx)⟩
theorem vals_far {W : World} {v : Value} {xs : List Nat} (h : Sl W v 1 xs.length (u64Cells xs)) {g : Nat} {t : TypeId} {op : Int} {now : Bool} {fl : Int} {sa aa : Option Addr} {n c m k : Nat} {d : ByteArray} (B : Blk W g t (pduC op now fl sa n c aa m k d)) :
    ∀ b o q, v = .slice (some ⟨b, o, none⟩) xs.length q → xs.length ≠ 0 → b ≠ g := by
  rintro b o q rfl h0 rfl
  obtain ⟨b', o', c', e, _, hc⟩ := vals_open h (by omega)
  cases e
  have h1 := hc 0 xs[0] (List.getElem?_eq_getElem (by omega))
  rw [B.cell] at h1
  rcases o with _ | _ | _ | _ | _ | _ | o <;> simp [pduC] at h1
theorem ahs_far {W : World} {v : Value} {xs : List (Nat × List UInt8)} (h : Sl W v 2 xs.length (ahsCells xs)) {g : Nat} {t : TypeId} {op : Int} {now : Bool} {fl : Int} {sa aa : Option Addr} {n c m k : Nat} {d : ByteArray} (B : Blk W g t (pduC op now fl sa n c aa m k d)) :
    ∀ b o q, v = .slice (some ⟨b, o, none⟩) xs.length q → xs.length ≠ 0 → b ≠ g := by
  rintro b o q rfl h0 rfl
  obtain ⟨a', c', e, _, hc⟩ := h
  cases e
  rcases hc with hc | ⟨b', o', e, hc⟩
  · exact h0 hc
  · cases e
    cases xs with
    | nil => exact h0 rfl
    | cons x xs =>
      have h1 := hc 0 _ rfl
      have h2 := hc 1 _ rfl
      rw [B.cell] at h1 h2
      rcases o with _ | _ | _ | _ | _ | _ | o <;> simp [pduC] at h1 h2
theorem err_far {W : World} {v : Value} {k : Nat} {pl : Int} (h : ErrIs W v k pl) {g : Nat} {t : TypeId} {op : Int} {now : Bool} {fl : Int} {sa aa : Option Addr} {n c m q : Nat} {d : ByteArray} (B : Blk W g t (pduC op now fl sa n c aa m q d)) :
    ∀ b, v = .iface 144 (.pointer (some ⟨b, 0, none⟩)) → b ≠ g := by
  rintro b rfl rfl
  cases h with
  | at_ k h pl b e0 e1 =>
    rw [B.cell] at e1
    simp [pduC] at e1
theorem err_set {W : World} {v : Value} {k : Nat} {pl : Int} (h : ErrIs W v k pl) (g i : Nat) (u : Value) (hd : ∀ b, v = .iface 144 (.pointer (some ⟨b, 0, none⟩)) → b ≠ g) : ErrIs (W.setCell ⟨g, i, none⟩ u) v k pl := by
  cases h with
  | nil => exact .nil
  | bare k h => exact .bare k h
  | at_ k h pl b e0 e1 =>
    have hn := hd b rfl
    exact .at_ k h pl b ((World.cell?_setCell_far _ _ _ _ (fun e => hn e.symm)).trans e0) ((World.cell?_setCell_far _ _ _ _ (fun e => hn e.symm)).trans e1)
section
variable (s : List UInt8) (mode : Int) (w : World) (hs : s.length ≤ 1000000) (hm0 : -9223372036854775808 ≤ mode) (hm1 : mode ≤ 9223372036854775807) (hg : EType w) (hT : AS w) (hP : PT w)
include hs hm0 hm1 hg hT hP
set_option maxHeartbeats 8000000 in
theorem pduRead_any : Calls Tryz.prog 51 #[.string (bs s), .int .i64 mode] w fun e w' => PduRdPost (readP s mode) w e w' := by
  have c1 := fun w1 => hid (size_any s mode w1 (by omega) hm0 hm1)
  have b1 := (Below.refl w.heap.size w).alloc (Nat.le_refl _) (.cells #[.int .i64 0, .bool false, .int .i64 0, .slice none 0 0, .slice none 0 0, .string (bs [])] 40)
  have B1 := Blk.new w 40 #[.int .i64 0, .bool false, .int .i64 0, .slice none 0 0, .slice none 0 0, .string (bs [])]
  by_cases hk0 : (sizeP s mode).2 = 0
  · have hsz : sizeP s mode = (allN s (mode % 2 == 1) (mode / 2 == 1), 0) ∧ 48 ≤ s.length ∧ 0 ≤ mode ∧ mode ≤ 3 := by
      unfold sizeP at hk0 ⊢
      split at hk0
      · cases hk0
      · rename_i h1
        rw [if_neg h1]
        split at hk0
        · cases hk0
        · rename_i h2
          rw [if_neg h2]
          exact ⟨rfl, by omega, by omega, by omega⟩
    obtain ⟨hsz, hl48, hmm0, hmm1⟩ := hsz
    obtain ⟨hm1', hm2'⟩ := mode_bits mode hmm0 hmm1
    have HR0 := hid (show readP s mode = if s.length < allN s (mode % 2 == 1) (mode / 2 == 1) then rdNo 7 else readPa s (mode % 2 == 1) (mode / 2 == 1) by
      unfold readP; rw [if_neg (by rw [hk0]; simp)])
    rw [hsz] at c1
    obtain ⟨q1, hq1⟩ : ∃ q, (bits .and .i64 mode 1 != 0) = q := ⟨_, rfl⟩
    obtain ⟨q2, hq2⟩ : ∃ q, (bits .and .i64 mode 2 != 0) = q := ⟨_, rfl⟩
    rw [← hm1', ← hm2', hq1, hq2] at HR0 c1
    clear hm1' hm2' hsz hk0 hm0 hm1
    by_cases hall : s.length < allN s q1 q2
    · have HRf := hid (show readP s mode = rdNo 7 by rw [HR0.out, if_pos hall])
      have hd : decide ((s.length : Int) < (allN s q1 q2 : Nat)) = true := decide_eq_true (by omega)
      generalize allN s q1 q2 = all at *
      go_enter Tryz.func51, Tryz.ntmps51
      go_wp2_with fail
      refine (c1 _).out.mono ?_
      rintro e w2 ⟨rfl, hb2⟩
      have B2 := B1.below hb2
      have b2 := b1.trans (hb2.mono b1.size)
      simp only [errV]
      have v0 := B2.free 0
      have v1 := B2.free 1
      have v2 := B2.free 2
      have v3 := B2.free 3
      have v4 := B2.free 4
      have v5 := B2.free 5
      have t0 : World.cell? _ ⟨w.heap.size, 0, none⟩ = some (.int .i64 0) := (B2.cell 0).trans rfl
      have t1 : World.cell? _ ⟨w.heap.size, 1, none⟩ = some (.bool false) := (B2.cell 1).trans rfl
      have t2 : World.cell? _ ⟨w.heap.size, 2, none⟩ = some (.int .i64 0) := (B2.cell 2).trans rfl
      have t3 : World.cell? _ ⟨w.heap.size, 3, none⟩ = some (.slice none 0 0) := (B2.cell 3).trans rfl
      have t4 : World.cell? _ ⟨w.heap.size, 4, none⟩ = some (.slice none 0 0) := (B2.cell 4).trans rfl
      have t5 : World.cell? _ ⟨w.heap.size, 5, none⟩ = some (.string (bs [])) := (B2.cell 5).trans rfl
      go_wp2
      refine bodyPost_ret (v := .tuple #[pduV 0 false 0 (.slice none 0 0) (.slice none 0 0) [], .int .i64 0, .iface 31 (.int .i64 7)]) (by simp [results, Tryz.results51, go_sem, pduV, t0, t1, t2, t3, t4, t5]; rfl) rfl ?_
      refine ⟨_, _, by rw [HRf.out]; rfl, by rw [HRf.out]; exact sl_nil _ _, by rw [HRf.out]; exact sl_nil _ _, ?_⟩
      iterate 6 refine below_setc ?_ (Nat.le_refl w.heap.size) _ _
      exact b2
    · have HRa := hid (show readP s mode = readPa s q1 q2 by rw [HR0.out, if_neg hall])
      have hd : decide ((s.length : Int) < (allN s q1 q2 : Nat)) = false := decide_eq_false (by omega)
      have hall2 : allN s q1 q2 = endN s + dN s + padN (dN s) + (if q1 then 4 else 0) + (if q2 && decide (0 < dN s) then 4 else 0) := by unfold allN endN; omega
      have hRL : restL s q1 q2 = (s.take (allN s q1 q2)).drop (endN s + if q1 then 4 else 0) := rfl
      have hRP := HRa.out
      unfold readPa at hRP
      obtain ⟨x4, hx4⟩ : ∃ x, s[4]'(by omega) = x := ⟨_, rfl⟩
      have hl4 : 4 < s.length := by omega
      have hi4 : (4 : Int) < (s.length : Int) := by omega
      have e4 : wN s = x4.toNat := by unfold wN; rw [← hx4]; simp [List.getD, hl4]
      have hx4l := x4.toNat_lt
      have hE0 : endN s = 48 + 4 * x4.toNat := by unfold endN; rw [e4]
      have hDl := dN_lt s
      have hPl := padN_lt (dN s)
      have hDat : (readH (s.take 48)).e = 0 → (readH (s.take 48)).data = (dN s : Nat) := read_data s hl48
      have hAXl : ((s.take (endN s)).drop 48).length ≤ 1020 := by simp; omega
      have hA0l : (s.take (endN s)).length = endN s := by simp; omega
      have h4848 : (s.take (endN s)).take 48 = s.take 48 := by rw [List.take_take]; congr 1; omega
      have hvl := read_len' (s.take 48)
      have cR := fun w1 (hb : Below w.heap.size w w1) => hid (read_any (s.take 48) w1 (by simp; omega) (hT.below hb (Nat.le_refl _)) (hP.below hb (Nat.le_refl _)))
      have cA := fun w1 (hb : Below w.heap.size w w1) => hid (ahsRead_any ((s.take (endN s)).drop 48) w1 hAXl (hg.below hb))
      have cT := fun x k pl w1 (hb : Below w.heap.size w w1) (he : ErrIs w1 x k pl) => hid (tell_any x k pl w1 (hg.below hb) he)
      have hahs : ahsOf s = ahsP (((s.take (endN s)).drop 48).length + 1) ((s.take (endN s)).drop 48) 0 := rfl
      unfold ReadPost at cR
      unfold AhsPost at cA
      rw [← hahs] at cA
      have HDat := hid hDat
      generalize hH : readH (s.take 48) = H at *
      generalize ahsOf s = AH at *
      obtain ⟨AL, ae, ap⟩ := AH
      simp only at cA hRP
      generalize hE : endN s = E0 at *
      generalize hD' : dN s = D at *
      generalize hP' : padN D = P at *
      have HRP := hid hRP
      have HRL := hid hRL
      clear hRP hRL hahs hDat e4 HR0 HRa hH
      have slA : ∀ W, (Instr.slice 9 (.string (bs s)) none (some (.int .i64 (E0 : Int))) none).run Tryz.prog W = .ok (.string (bs (s.take E0))) W := fun W => str_to s E0 (by omega) (by omega) W
      have sl48 : ∀ W, (Instr.slice 9 (.string (bs (s.take E0))) none (some (.int .i64 48)) none).run Tryz.prog W = .ok (.string (bs (s.take 48))) W := fun W => by
        rw [← h4848]; exact str_to (s.take E0) 48 (by omega) (by omega) W
      have slX : ∀ W, (Instr.slice 9 (.string (bs (s.take E0))) (some (.int .i64 48)) none none).run Tryz.prog W = .ok (.string (bs ((s.take E0).drop 48))) W := fun W => str_from (s.take E0) 48 (by omega) (by omega) W
      have hx4w : IntKind.i64.wrap (x4.toNat : Int) = (x4.toNat : Int) := by rw [IntKind.wrap_i64]; omega
      have hs4 : IntKind.i64.wrap (4 * (x4.toNat : Int)) = 4 * (x4.toNat : Int) := by rw [IntKind.wrap_i64]; omega
      have hs5 : IntKind.i64.wrap (48 + 4 * (x4.toNat : Int)) = (E0 : Int) := by rw [IntKind.wrap_i64]; omega
      have hmx : Tryz.prog.follows .mixedOrders = true := by kernel_rfl
      have HALL := hid hall2; have HE0 := hid hE0
      have hEs : E0 ≤ s.length := by omega
      clear hT hP hg h4848 hall2 hE0
      obtain ⟨K, hK⟩ : ∃ K, K = D + P := ⟨_, rfl⟩
      have hKI : (D : Int) + padI (D : Int) = (K : Int) := by rw [padI_nat, hP']; omega
      rw [← hK] at HRP
      cases q1
      · have HR1 := hid (show readP s mode = _ by rw [HRP.out, if_neg (by simp)])
        have hRe : restL s false q2 = (s.take (allN s false q2)).drop E0 := by rw [HRL.out]; rfl
        rw [hRe] at HR1
        have hal := HALL.out
        have hDK : 0 < D → K ≤ allN s false q2 - E0 := by intro h; rw [hal]; simp; omega
        generalize allN s false q2 = all at *
        have hEa : E0 ≤ all := by rw [hal]; simp; omega
        clear hal hRe
        have slR : ∀ W, (Instr.slice 9 (.string (bs s)) (some (.int .i64 (E0 : Int))) (some (.int .i64 (all : Int))) none).run Tryz.prog W = .ok (.string (bs ((s.take all).drop E0))) W := fun W => str_ab s E0 all hEa (by omega) (by omega) W
        have hRl : ((s.take all).drop E0).length = all - E0 := by simp; omega
        have HRK := hid (show K ≤ all - E0 → ∀ AK, AK = E0 + K → ∀ W, (Instr.slice 9 (.string (bs s)) (some (.int .i64 (E0 : Int))) (some (.int .i64 (AK : Int))) none).run Tryz.prog W = .ok (.string (bs (((s.take all).drop E0).take K))) W from fun hk AK e W => by
          rw [str_ab s E0 AK (by omega) (by omega) (by omega) W, take_drop_sub s E0 AK K all e (by omega)])
        have HRD := hid (show K ≤ all - E0 → ∀ AK, AK = E0 + K → ∀ W, (Instr.slice 9 (.string (bs s)) (some (.int .i64 (AK : Int))) (some (.int .i64 (all : Int))) none).run Tryz.prog W = .ok (.string (bs (((s.take all).drop E0).drop K))) W from fun hk AK e W => by
          rw [str_ab s AK all (by omega) (by omega) (by omega) W, List.drop_drop, e])
        generalize (s.take all).drop E0 = R at *
        have cU0 := fun (h : unpadE R (D : Int) = 0) w1 => hid (show Calls Tryz.prog 84 #[.string (bs R), .int .i64 (D : Int)] w1 (fun e w' => e = .returned (.tuple #[.string (bs (R.take D)), .int .i64 (K : Int), .nilIface]) ∧ Below w1.heap.size w1 w') from (unpad_any R (D : Int) w1 (by omega) (by omega) (by omega)).mono (by
          rintro e w' ⟨rfl, q, rfl⟩
          exact ⟨by rw [unpadV, if_pos h, hKI]; rfl, below_drewN (Below.refl _ _) _⟩))
        have cU1 := fun (h : ¬ unpadE R (D : Int) = 0) w1 => hid (show Calls Tryz.prog 84 #[.string (bs R), .int .i64 (D : Int)] w1 (fun e w' => e = .returned (.tuple #[.string (bs []), .int .i64 0, .iface 31 (.int .i64 (unpadE R (D : Int) : Nat))]) ∧ Below w1.heap.size w1 w') from (unpad_any R (D : Int) w1 (by omega) (by omega) (by omega)).mono (by
          rintro e w' ⟨rfl, q, rfl⟩
          exact ⟨by rw [unpadV, if_neg h], below_drewN (Below.refl _ _) _⟩))
        have HK := hid hK; clear hK
        go_enter Tryz.func51, Tryz.ntmps51
        go_wp2_with fail
        refine (c1 _).out.mono ?_
        rintro e w2 ⟨rfl, hb2⟩
        have B2 := B1.below hb2
        have b2 := b1.trans (hb2.mono b1.size)
        simp only [errV]
        have BP := Blk.new w2 40 (pduC 0 false 0 none 0 0 none 0 0 (bs []))
        have hAP := (Below.refl w2.heap.size w2).alloc (Nat.le_refl _) (.cells (pduC 0 false 0 none 0 0 none 0 0 (bs [])) 40)
        have B3 := B2.below hAP
        have b3 := b2.trans (hAP.mono b2.size)
        have hhp : w.heap.size ≠ w2.heap.size := by have := B2.lt; omega
        have hpw : w.heap.size ≤ w2.heap.size := by have := B2.lt; omega
        go_wp2_with fail
        refine (cR _ b3).out.mono ?_
        rintro e w4 ⟨hv, ev, rfl, her, hsl, hb4⟩
        unfold headV
        have HSL := hid hsl
        obtain ⟨ha, hc, rfl, _⟩ := hsl
        have BP4 := BP.below hb4
        have B4 := B3.below hb4
        have b4 := b3.trans (hb4.mono b3.size)
        clear BP B3 b3 hAP hb4
        generalize w2.heap.size = p at *
        have u0 := BP4.free 0; have u1 := BP4.free 1; have u2 := BP4.free 2; have u3 := BP4.free 3
        have y0 : w4.cell? ⟨p, 0, none⟩ = some (.int .i64 0) := (BP4.cell 0).trans rfl
        have y1 : w4.cell? ⟨p, 1, none⟩ = some (.bool false) := (BP4.cell 1).trans rfl
        have y2 : w4.cell? ⟨p, 2, none⟩ = some (.int .i64 0) := (BP4.cell 2).trans rfl
        have y3 : w4.cell? ⟨p, 3, none⟩ = some (.slice none 0 0) := (BP4.cell 3).trans rfl
        have BP5 : Blk ((((w4.setCell ⟨p, 0, none⟩ (.int .i64 H.op)).setCell ⟨p, 1, none⟩ (.bool H.now)).setCell ⟨p, 2, none⟩ (.int .i64 H.flags)).setCell ⟨p, 3, none⟩ (.slice ha H.vals.length hc)) p 40 (pduC H.op H.now H.flags ha H.vals.length hc none 0 0 (bs [])) := (((BP4.set 0 _).set 1 _).set 2 _).set 3 _
        have B5 := blk_off (blk_off (blk_off (blk_off B4 0 (.int .i64 H.op) hhp) 1 (.bool H.now) hhp) 2 (.int .i64 H.flags) hhp) 3 (.slice ha H.vals.length hc) hhp
        have b5 := below_setc (below_setc (below_setc (below_setc b4 hpw 0 (.int .i64 H.op)) hpw 1 (.bool H.now)) hpw 2 (.int .i64 H.flags)) hpw 3 (.slice ha H.vals.length hc)
        have hvf := vals_far HSL.out BP4
        have HSL5 := hid (sl_set (sl_set (sl_set (sl_set HSL.out p 0 (.int .i64 H.op) hvf) p 1 (.bool H.now) hvf) p 2 (.int .i64 H.flags) hvf) p 3 (.slice ha H.vals.length hc) hvf)
        have hef := err_far her BP4
        have HER5 := hid (err_set (err_set (err_set (err_set her p 0 (.int .i64 H.op) hef) p 1 (.bool H.now) hef) p 2 (.int .i64 H.flags) hef) p 3 (.slice ha H.vals.length hc) hef)
        clear hvf hef
        by_cases hHe : H.e = 0
        · have hda : H.data = (D : Int) := HDat.out hHe
          have HR2 := hid (show readP s mode = _ by rw [HR1.out, if_neg (by simp [hHe])])
          rw [hHe] at her
          obtain rfl := errIs_zeroH her
          rw [hda]
          clear her HER5
          go_wp2_with fail
          generalize hW5 : (((w4.setCell ⟨p, 0, none⟩ (.int .i64 H.op)).setCell ⟨p, 1, none⟩ (.bool H.now)).setCell ⟨p, 2, none⟩ (.int .i64 H.flags)).setCell ⟨p, 3, none⟩ (.slice ha H.vals.length hc) = W5 at *
          clear hW5 u0 u1 u2 u3 y0 y1 y2 y3 BP4 B4 b4
          refine (cA _ b5).out.mono ?_
          rintro e w6 ⟨⟨av, er, rfl, her2, hsl2⟩, hb6⟩
          have BP6 := BP5.below hb6
          have B6 := B5.below hb6
          have b6 := b5.trans (hb6.mono b5.size)
          have HSL6 := hid (HSL5.out.below (Nat.le_refl _) hb6)
          have u4 := BP6.free 4
          have y4 : w6.cell? ⟨p, 4, none⟩ = some (.slice none 0 0) := (BP6.cell 4).trans rfl
          have hvf := vals_far HSL6.out BP6
          by_cases hae : ae = 0
          · have HR3 := hid (show readP s mode = _ by rw [HR2.out, if_neg (by simp [hae])])
            rw [if_pos hae, if_pos hae] at hsl2
            rw [hae] at her2
            obtain rfl := errIs_zeroH her2
            have HSA := hid hsl2
            obtain ⟨aa, ac, rfl, _⟩ := hsl2
            have haf := ahs_far HSA.out BP6
            have BP7 : Blk (w6.setCell ⟨p, 4, none⟩ (.slice aa AL.length ac)) p 40 (pduC H.op H.now H.flags ha H.vals.length hc aa AL.length ac (bs [])) := BP6.set 4 _
            have B7 := blk_off B6 4 (.slice aa AL.length ac) hhp
            have b7 := below_setc b6 hpw 4 (.slice aa AL.length ac)
            have HSL7 := hid (sl_set HSL6.out p 4 (.slice aa AL.length ac) hvf)
            have HSA7 := hid (sl_set HSA.out p 4 (.slice aa AL.length ac) haf)
            clear her2 hvf haf
            go_wp2_with fail
            generalize hW7 : w6.setCell ⟨p, 4, none⟩ (.slice aa AL.length ac) = W7 at *
            clear hW7 u4 y4 BP6 B6 b6
            by_cases hU : unpadE R (D : Int) = 0
            · have HR4 := hid (show readP s mode = _ by rw [HR3.out, if_neg (by simp [hU])])
              refine ((cU0 hU) _).out.mono ?_
              rintro e W8 ⟨rfl, hb8⟩
              have BP8 := BP7.below hb8
              have B8 := B7.below hb8
              have b8 := b7.trans (hb8.mono b7.size)
              have HSL8 := hid (HSL7.out.below (Nat.le_refl _) hb8)
              have HSA8 := hid (HSA7.out.below (by omega) hb8)
              obtain ⟨q3, hq3⟩ : ∃ q, decide (0 < D) = q := ⟨_, rfl⟩
              go_wp2_with fail
              cases q2 with
              | false =>
                have HR5 := hid (show readP s mode = _ by rw [HR4.out, if_neg (by simp)])
                refine wpIn_wide (n := 4).1 ?_
                refine region_guard (aF := ?kAq2fE0) [(96, .int .i64 mode), (97, .int .i64 (bits .and .i64 mode 2)), (98, .bool false), (99, .bool false), (100, undef), (101, undef), (102, .bool false), (103, .bool false), (104, undef), (105, undef), (106, undef), (107, undef), (108, undef), (109, undef), (110, undef), (111, undef), (112, undef), (113, undef), (114, undef), (115, undef), (116, undef), (117, undef), (118, .bool false)] (fun W => Below W8.heap.size W8 W) ?kBq2fE0 hmx (by kernel_rfl) (by kernel_rfl) (Below.refl _ _).drew ?kCq2fE0 ?kDq2fE0
                case kBq2fE0 =>
                  simp only [putAll, List.foldl_cons, List.foldl_nil, List.setIfInBounds_toArray, List.set_cons_zero, List.set_cons_succ]
                  exact rfl
                case kCq2fE0 =>
                  refine ⟨?_, ?_, ?_, ?_, ?_, ?_, ?_, ?_, ?_, ?_, ?_, ?_, ?_, ?_, ?_, ?_, ?_, ?_, ?_, ?_, ?_, ?_, ?_, trivial⟩
                  all_goals refine ⟨fun d hd => by simp at hd <;> (subst hd; simp), ?_⟩
                  all_goals first
                    | refine .inl ⟨by first | exact trivial | exact ⟨by simp, rfl⟩, fun W h => ⟨?_, ?_⟩⟩
                    | refine .inr ⟨⟨by simp, rfl⟩, fun d hd => by simp at hd <;> (subst hd; rfl), fun W h f hf => by first | (simp [go_sem, Oper.about] at hf; done) | trivial⟩
                    | refine .inr ⟨⟨by simp, rfl⟩, fun d hd => by simp at hd <;> (subst hd; rfl), fun W h f hf => trivial⟩
                  all_goals first
                    | (simp [go_sem, Oper.about]; done)
                    | (simp [go_sem, Oper.about]; exact trivial)
                    | skip
                  all_goals first
                    | (simp [OpInv, go_sem, h, hq2, hq3]; done)
                    | skip
                case kDq2fE0 =>
                  intro W9 hW9
                  have BP9 := BP8.below hW9
                  have B9 := B8.below hW9
                  have b9 := b8.trans (hW9.mono b8.size)
                  have HSL9 := hid (HSL8.out.below (Nat.le_refl _) hW9)
                  have HSA9 := hid (HSA8.out.below (by omega) hW9)
                  gi_wp2
                  by_cases hbig : 100000 < D
                  · have HRf := hid (show readP s mode = rdNo 4 by rw [HR5.out, if_pos hbig])
                    have hdb : decide ((100000 : Int) < (D : Int)) = true := decide_eq_true (by omega)
                    have v0 := B9.free 0
                    have v1 := B9.free 1
                    have v2 := B9.free 2
                    have v3 := B9.free 3
                    have v4 := B9.free 4
                    have v5 := B9.free 5
                    have t0 : World.cell? _ ⟨w.heap.size, 0, none⟩ = some (.int .i64 0) := (B9.cell 0).trans rfl
                    have t1 : World.cell? _ ⟨w.heap.size, 1, none⟩ = some (.bool false) := (B9.cell 1).trans rfl
                    have t2 : World.cell? _ ⟨w.heap.size, 2, none⟩ = some (.int .i64 0) := (B9.cell 2).trans rfl
                    have t3 : World.cell? _ ⟨w.heap.size, 3, none⟩ = some (.slice none 0 0) := (B9.cell 3).trans rfl
                    have t4 : World.cell? _ ⟨w.heap.size, 4, none⟩ = some (.slice none 0 0) := (B9.cell 4).trans rfl
                    have t5 : World.cell? _ ⟨w.heap.size, 5, none⟩ = some (.string (bs [])) := (B9.cell 5).trans rfl
                    go_wp2
                    refine bodyPost_ret (v := .tuple #[pduV 0 false 0 (.slice none 0 0) (.slice none 0 0) [], .int .i64 0, .iface 31 (.int .i64 4)]) (by simp [results, Tryz.results51, go_sem, pduV, t0, t1, t2, t3, t4, t5]; rfl) rfl ?_
                    refine ⟨_, _, by rw [HRf.out]; rfl, by rw [HRf.out]; exact sl_nil _ _, by rw [HRf.out]; exact sl_nil _ _, ?_⟩
                    iterate 6 refine below_setc ?_ (Nat.le_refl w.heap.size) _ _
                    exact b9
                  · have HRf := hid (show readP s mode = _ by rw [HR5.out, if_neg hbig])
                    have hdb : decide ((100000 : Int) < (D : Int)) = false := decide_eq_false (by omega)
                    have u0 := BP9.free 0
                    have u1 := BP9.free 1
                    have u2 := BP9.free 2
                    have u3 := BP9.free 3
                    have u4 := BP9.free 4
                    have u5 := BP9.free 5
                    have y0 : World.cell? _ ⟨p, 0, none⟩ = some (.int .i64 H.op) := (BP9.cell 0).trans rfl
                    have y1 : World.cell? _ ⟨p, 1, none⟩ = some (.bool H.now) := (BP9.cell 1).trans rfl
                    have y2 : World.cell? _ ⟨p, 2, none⟩ = some (.int .i64 H.flags) := (BP9.cell 2).trans rfl
                    have y3 : World.cell? _ ⟨p, 3, none⟩ = some (.slice ha H.vals.length hc) := (BP9.cell 3).trans rfl
                    have y4 : World.cell? _ ⟨p, 4, none⟩ = some (.slice aa AL.length ac) := (BP9.cell 4).trans rfl
                    have y5 : World.cell? _ ⟨p, 5, none⟩ = some (.string (bs [])) := (BP9.cell 5).trans rfl
                    have v0 := B9.free 0
                    have v1 := B9.free 1
                    have v2 := B9.free 2
                    have v3 := B9.free 3
                    have v4 := B9.free 4
                    have v5 := B9.free 5
                    have t0 : World.cell? _ ⟨w.heap.size, 0, none⟩ = some (.int .i64 0) := (B9.cell 0).trans rfl
                    have t1 : World.cell? _ ⟨w.heap.size, 1, none⟩ = some (.bool false) := (B9.cell 1).trans rfl
                    have t2 : World.cell? _ ⟨w.heap.size, 2, none⟩ = some (.int .i64 0) := (B9.cell 2).trans rfl
                    have t3 : World.cell? _ ⟨w.heap.size, 3, none⟩ = some (.slice none 0 0) := (B9.cell 3).trans rfl
                    have t4 : World.cell? _ ⟨w.heap.size, 4, none⟩ = some (.slice none 0 0) := (B9.cell 4).trans rfl
                    have t5 : World.cell? _ ⟨w.heap.size, 5, none⟩ = some (.string (bs [])) := (B9.cell 5).trans rfl
                    go_wp2
                    have BPe := BP9.set 5 (.string (bs (R.take D)))
                    have hvf := vals_far HSL9.out BP9
                    have haf := ahs_far HSA9.out BP9
                    have hvh := vals_far HSL9.out B9
                    have hah := ahs_far HSA9.out B9
                    refine bodyPost_ret (v := .tuple #[pduV H.op H.now H.flags (.slice ha H.vals.length hc) (.slice aa AL.length ac) (R.take D), .int .i64 (all : Int), .nilIface]) (by simp [results, Tryz.results51, go_sem, pduV, t0, t1, t2, t3, t4, t5, y0, y1, y2, y3, y4, y5]) rfl ?_
                    have hs1 := sl_set (sl_set (sl_set (sl_set (sl_set (sl_set (sl_set HSL9.out p 5 (.string (bs (R.take D))) hvf) w.heap.size 0 (.int .i64 H.op) hvh) w.heap.size 1 (.bool H.now) hvh) w.heap.size 2 (.int .i64 H.flags) hvh) w.heap.size 3 (.slice ha H.vals.length hc) hvh) w.heap.size 4 (.slice aa AL.length ac) hvh) w.heap.size 5 (.string (bs (R.take D))) hvh
                    have hs2 := sl_set (sl_set (sl_set (sl_set (sl_set (sl_set (sl_set HSA9.out p 5 (.string (bs (R.take D))) haf) w.heap.size 0 (.int .i64 H.op) hah) w.heap.size 1 (.bool H.now) hah) w.heap.size 2 (.int .i64 H.flags) hah) w.heap.size 3 (.slice ha H.vals.length hc) hah) w.heap.size 4 (.slice aa AL.length ac) hah) w.heap.size 5 (.string (bs (R.take D))) hah
                    refine ⟨_, _, by rw [HRf.out]; rfl, by rw [HRf.out]; exact hs1, by rw [HRf.out]; exact hs2, ?_⟩
                    iterate 6 refine below_setc ?_ (Nat.le_refl w.heap.size) _ _
                    exact below_setc b9 hpw _ _
              | true =>
                cases q3 with
                | false =>
                  have HR5 := hid (show readP s mode = _ by rw [HR4.out, if_neg (by simp [hq3])])
                  refine wpIn_wide (n := 4).1 ?_
                  refine region_guard (aF := ?kAq3fE0) [(96, .int .i64 mode), (97, .int .i64 (bits .and .i64 mode 2)), (98, .bool true), (99, .bool true), (100, .int .i64 (D : Int)), (101, .bool false), (102, .bool false), (103, .bool false), (104, undef), (105, undef), (106, undef), (107, undef), (108, undef), (109, undef), (110, undef), (111, undef), (112, undef), (113, undef), (114, undef), (115, undef), (116, undef), (117, undef), (118, .bool false)] (fun W => Below W8.heap.size W8 W) ?kBq3fE0 hmx (by kernel_rfl) (by kernel_rfl) (Below.refl _ _).drew ?kCq3fE0 ?kDq3fE0
                  case kBq3fE0 =>
                    simp only [putAll, List.foldl_cons, List.foldl_nil, List.setIfInBounds_toArray, List.set_cons_zero, List.set_cons_succ]
                    exact rfl
                  case kCq3fE0 =>
                    refine ⟨?_, ?_, ?_, ?_, ?_, ?_, ?_, ?_, ?_, ?_, ?_, ?_, ?_, ?_, ?_, ?_, ?_, ?_, ?_, ?_, ?_, ?_, ?_, trivial⟩
                    all_goals refine ⟨fun d hd => by simp at hd <;> (subst hd; simp), ?_⟩
                    all_goals first
                      | refine .inl ⟨by first | exact trivial | exact ⟨by simp, rfl⟩, fun W h => ⟨?_, ?_⟩⟩
                      | refine .inr ⟨⟨by simp, rfl⟩, fun d hd => by simp at hd <;> (subst hd; rfl), fun W h f hf => by first | (simp [go_sem, Oper.about] at hf; done) | trivial⟩
                      | refine .inr ⟨⟨by simp, rfl⟩, fun d hd => by simp at hd <;> (subst hd; rfl), fun W h f hf => trivial⟩
                    all_goals first
                      | (simp [go_sem, Oper.about]; done)
                      | (simp [go_sem, Oper.about]; exact trivial)
                      | skip
                    all_goals first
                      | (simp [OpInv, go_sem, h, hq2, hq3]; done)
                      | skip
                  case kDq3fE0 =>
                    intro W9 hW9
                    have BP9 := BP8.below hW9
                    have B9 := B8.below hW9
                    have b9 := b8.trans (hW9.mono b8.size)
                    have HSL9 := hid (HSL8.out.below (Nat.le_refl _) hW9)
                    have HSA9 := hid (HSA8.out.below (by omega) hW9)
                    gi_wp2
                    by_cases hbig : 100000 < D
                    · have HRf := hid (show readP s mode = rdNo 4 by rw [HR5.out, if_pos hbig])
                      have hdb : decide ((100000 : Int) < (D : Int)) = true := decide_eq_true (by omega)
                      have v0 := B9.free 0
                      have v1 := B9.free 1
                      have v2 := B9.free 2
                      have v3 := B9.free 3
                      have v4 := B9.free 4
                      have v5 := B9.free 5
                      have t0 : World.cell? _ ⟨w.heap.size, 0, none⟩ = some (.int .i64 0) := (B9.cell 0).trans rfl
                      have t1 : World.cell? _ ⟨w.heap.size, 1, none⟩ = some (.bool false) := (B9.cell 1).trans rfl
                      have t2 : World.cell? _ ⟨w.heap.size, 2, none⟩ = some (.int .i64 0) := (B9.cell 2).trans rfl
                      have t3 : World.cell? _ ⟨w.heap.size, 3, none⟩ = some (.slice none 0 0) := (B9.cell 3).trans rfl
                      have t4 : World.cell? _ ⟨w.heap.size, 4, none⟩ = some (.slice none 0 0) := (B9.cell 4).trans rfl
                      have t5 : World.cell? _ ⟨w.heap.size, 5, none⟩ = some (.string (bs [])) := (B9.cell 5).trans rfl
                      go_wp2
                      refine bodyPost_ret (v := .tuple #[pduV 0 false 0 (.slice none 0 0) (.slice none 0 0) [], .int .i64 0, .iface 31 (.int .i64 4)]) (by simp [results, Tryz.results51, go_sem, pduV, t0, t1, t2, t3, t4, t5]; rfl) rfl ?_
                      refine ⟨_, _, by rw [HRf.out]; rfl, by rw [HRf.out]; exact sl_nil _ _, by rw [HRf.out]; exact sl_nil _ _, ?_⟩
                      iterate 6 refine below_setc ?_ (Nat.le_refl w.heap.size) _ _
                      exact b9
                    · have HRf := hid (show readP s mode = _ by rw [HR5.out, if_neg hbig])
                      have hdb : decide ((100000 : Int) < (D : Int)) = false := decide_eq_false (by omega)
                      have u0 := BP9.free 0
                      have u1 := BP9.free 1
                      have u2 := BP9.free 2
                      have u3 := BP9.free 3
                      have u4 := BP9.free 4
                      have u5 := BP9.free 5
                      have y0 : World.cell? _ ⟨p, 0, none⟩ = some (.int .i64 H.op) := (BP9.cell 0).trans rfl
                      have y1 : World.cell? _ ⟨p, 1, none⟩ = some (.bool H.now) := (BP9.cell 1).trans rfl
                      have y2 : World.cell? _ ⟨p, 2, none⟩ = some (.int .i64 H.flags) := (BP9.cell 2).trans rfl
                      have y3 : World.cell? _ ⟨p, 3, none⟩ = some (.slice ha H.vals.length hc) := (BP9.cell 3).trans rfl
                      have y4 : World.cell? _ ⟨p, 4, none⟩ = some (.slice aa AL.length ac) := (BP9.cell 4).trans rfl
                      have y5 : World.cell? _ ⟨p, 5, none⟩ = some (.string (bs [])) := (BP9.cell 5).trans rfl
                      have v0 := B9.free 0
                      have v1 := B9.free 1
                      have v2 := B9.free 2
                      have v3 := B9.free 3
                      have v4 := B9.free 4
                      have v5 := B9.free 5
                      have t0 : World.cell? _ ⟨w.heap.size, 0, none⟩ = some (.int .i64 0) := (B9.cell 0).trans rfl
                      have t1 : World.cell? _ ⟨w.heap.size, 1, none⟩ = some (.bool false) := (B9.cell 1).trans rfl
                      have t2 : World.cell? _ ⟨w.heap.size, 2, none⟩ = some (.int .i64 0) := (B9.cell 2).trans rfl
                      have t3 : World.cell? _ ⟨w.heap.size, 3, none⟩ = some (.slice none 0 0) := (B9.cell 3).trans rfl
                      have t4 : World.cell? _ ⟨w.heap.size, 4, none⟩ = some (.slice none 0 0) := (B9.cell 4).trans rfl
                      have t5 : World.cell? _ ⟨w.heap.size, 5, none⟩ = some (.string (bs [])) := (B9.cell 5).trans rfl
                      go_wp2
                      have BPe := BP9.set 5 (.string (bs (R.take D)))
                      have hvf := vals_far HSL9.out BP9
                      have haf := ahs_far HSA9.out BP9
                      have hvh := vals_far HSL9.out B9
                      have hah := ahs_far HSA9.out B9
                      refine bodyPost_ret (v := .tuple #[pduV H.op H.now H.flags (.slice ha H.vals.length hc) (.slice aa AL.length ac) (R.take D), .int .i64 (all : Int), .nilIface]) (by simp [results, Tryz.results51, go_sem, pduV, t0, t1, t2, t3, t4, t5, y0, y1, y2, y3, y4, y5]) rfl ?_
                      have hs1 := sl_set (sl_set (sl_set (sl_set (sl_set (sl_set (sl_set HSL9.out p 5 (.string (bs (R.take D))) hvf) w.heap.size 0 (.int .i64 H.op) hvh) w.heap.size 1 (.bool H.now) hvh) w.heap.size 2 (.int .i64 H.flags) hvh) w.heap.size 3 (.slice ha H.vals.length hc) hvh) w.heap.size 4 (.slice aa AL.length ac) hvh) w.heap.size 5 (.string (bs (R.take D))) hvh
                      have hs2 := sl_set (sl_set (sl_set (sl_set (sl_set (sl_set (sl_set HSA9.out p 5 (.string (bs (R.take D))) haf) w.heap.size 0 (.int .i64 H.op) hah) w.heap.size 1 (.bool H.now) hah) w.heap.size 2 (.int .i64 H.flags) hah) w.heap.size 3 (.slice ha H.vals.length hc) hah) w.heap.size 4 (.slice aa AL.length ac) hah) w.heap.size 5 (.string (bs (R.take D))) hah
                      refine ⟨_, _, by rw [HRf.out]; rfl, by rw [HRf.out]; exact hs1, by rw [HRf.out]; exact hs2, ?_⟩
                      iterate 6 refine below_setc ?_ (Nat.le_refl w.heap.size) _ _
                      exact below_setc b9 hpw _ _
                | true =>
                  obtain ⟨AK, hAK⟩ : ∃ AK, AK = E0 + K := ⟨_, rfl⟩
                  have hKl : K ≤ all - E0 := hDK (by simpa using hq3)
                  have hAKw : IntKind.i64.wrap ((E0 : Int) + (K : Int)) = (AK : Int) := by rw [IntKind.wrap_i64]; omega
                  have slRK : ∀ W, (Instr.slice 9 (.string (bs s)) (some (.int .i64 (E0 : Int))) (some (.int .i64 (AK : Int))) none).run Tryz.prog W = .ok (.string (bs (R.take K))) W := HRK.out hKl AK hAK
                  have slRR : ∀ W, (Instr.slice 9 (.string (bs s)) (some (.int .i64 (AK : Int))) (some (.int .i64 (all : Int))) none).run Tryz.prog W = .ok (.string (bs (R.drop K))) W := HRD.out hKl AK hAK
                  have cd := fun w1 => hid (dig_bs (R.take K) w1 (by simp; omega))
                  obtain ⟨g2, hg2⟩ : ∃ g, (digL (R.take K) == R.drop K) = g := ⟨_, rfl⟩
                  refine wpIn_wide (n := 4).1 ?_
                  refine region_guard (aF := ?kAfullE0) [(96, .int .i64 mode), (97, .int .i64 (bits .and .i64 mode 2)), (98, .bool true), (99, .bool true), (100, .int .i64 (D : Int)), (101, .bool true), (102, .bool true), (103, .bool true), (104, .string (bs s)), (105, .int .i64 (E0 : Int)), (106, .int .i64 (E0 : Int)), (107, .int .i64 (K : Int)), (108, .int .i64 (AK : Int)), (109, .string (bs (R.take K))), (110, .string (bs (digL (R.take K)))), (111, .string (bs s)), (112, .int .i64 (E0 : Int)), (113, .int .i64 (K : Int)), (114, .int .i64 (AK : Int)), (115, .int .i64 (all : Int)), (116, .string (bs (R.drop K))), (117, .bool (!g2)), (118, .bool (!g2))] (fun W => Below W8.heap.size W8 W) ?kBfullE0 hmx (by kernel_rfl) (by kernel_rfl) (Below.refl _ _).drew ?kCfullE0 ?kDfullE0
                  case kBfullE0 =>
                    simp only [putAll, List.foldl_cons, List.foldl_nil, List.setIfInBounds_toArray, List.set_cons_zero, List.set_cons_succ]
                    exact rfl
                  case kCfullE0 =>
                    refine ⟨?_, ?_, ?_, ?_, ?_, ?_, ?_, ?_, ?_, ?_, ?_, ?_, ?_, ?_, ?_, ?_, ?_, ?_, ?_, ?_, ?_, ?_, ?_, trivial⟩
                    all_goals refine ⟨fun d hd => by simp at hd <;> (subst hd; simp), ?_⟩
                    all_goals first
                      | refine .inl ⟨by first | exact trivial | exact ⟨by simp, rfl⟩, fun W h => ⟨?_, ?_⟩⟩
                      | refine .inr ⟨⟨by simp, rfl⟩, fun d hd => by simp at hd <;> (subst hd; rfl), fun W h f hf => by first | (simp [go_sem, Oper.about] at hf; done) | trivial⟩
                      | refine .inr ⟨⟨by simp, rfl⟩, fun d hd => by simp at hd <;> (subst hd; rfl), fun W h f hf => trivial⟩
                    all_goals first
                      | (simp [go_sem, Oper.about]; done)
                      | (simp [go_sem, Oper.about]; exact trivial)
                      | skip
                    all_goals first
                      | (simp [OpInv, go_sem, h, hq2, hq3, hg2, hAKw, slRK, slRR]; done)
                      | skip
                    all_goals
                      have hc := (cd W).out
                      simp [OpInv, go_sem]
                      refine callsIn_wide.2 (hc.mono ?_)
                      rintro e w7 ⟨rfl, hb⟩
                      exact ⟨_, rfl, rfl, h.trans (hb.mono h.size)⟩
                  case kDfullE0 =>
                    intro W9 hW9
                    have BP9 := BP8.below hW9
                    have B9 := B8.below hW9
                    have b9 := b8.trans (hW9.mono b8.size)
                    have HSL9 := hid (HSL8.out.below (Nat.le_refl _) hW9)
                    have HSA9 := hid (HSA8.out.below (by omega) hW9)
                    gi_wp2
                    cases g2 with
                    | false =>
                      have HRf := hid (show readP s mode = rdNo 13 by rw [HR4.out, if_pos (by rw [hq3, hg2]; rfl)])
                      have v0 := B9.free 0
                      have v1 := B9.free 1
                      have v2 := B9.free 2
                      have v3 := B9.free 3
                      have v4 := B9.free 4
                      have v5 := B9.free 5
                      have t0 : World.cell? _ ⟨w.heap.size, 0, none⟩ = some (.int .i64 0) := (B9.cell 0).trans rfl
                      have t1 : World.cell? _ ⟨w.heap.size, 1, none⟩ = some (.bool false) := (B9.cell 1).trans rfl
                      have t2 : World.cell? _ ⟨w.heap.size, 2, none⟩ = some (.int .i64 0) := (B9.cell 2).trans rfl
                      have t3 : World.cell? _ ⟨w.heap.size, 3, none⟩ = some (.slice none 0 0) := (B9.cell 3).trans rfl
                      have t4 : World.cell? _ ⟨w.heap.size, 4, none⟩ = some (.slice none 0 0) := (B9.cell 4).trans rfl
                      have t5 : World.cell? _ ⟨w.heap.size, 5, none⟩ = some (.string (bs [])) := (B9.cell 5).trans rfl
                      go_wp2
                      refine bodyPost_ret (v := .tuple #[pduV 0 false 0 (.slice none 0 0) (.slice none 0 0) [], .int .i64 0, .iface 31 (.int .i64 13)]) (by simp [results, Tryz.results51, go_sem, pduV, t0, t1, t2, t3, t4, t5]; rfl) rfl ?_
                      refine ⟨_, _, by rw [HRf.out]; rfl, by rw [HRf.out]; exact sl_nil _ _, by rw [HRf.out]; exact sl_nil _ _, ?_⟩
                      iterate 6 refine below_setc ?_ (Nat.le_refl w.heap.size) _ _
                      exact b9
                    | true =>
                      have HR5 := hid (show readP s mode = _ by rw [HR4.out, if_neg (by simp [hq3, hg2])])
                      by_cases hbig : 100000 < D
                      · have HRf := hid (show readP s mode = rdNo 4 by rw [HR5.out, if_pos hbig])
                        have hdb : decide ((100000 : Int) < (D : Int)) = true := decide_eq_true (by omega)
                        have v0 := B9.free 0
                        have v1 := B9.free 1
                        have v2 := B9.free 2
                        have v3 := B9.free 3
                        have v4 := B9.free 4
                        have v5 := B9.free 5
                        have t0 : World.cell? _ ⟨w.heap.size, 0, none⟩ = some (.int .i64 0) := (B9.cell 0).trans rfl
                        have t1 : World.cell? _ ⟨w.heap.size, 1, none⟩ = some (.bool false) := (B9.cell 1).trans rfl
                        have t2 : World.cell? _ ⟨w.heap.size, 2, none⟩ = some (.int .i64 0) := (B9.cell 2).trans rfl
                        have t3 : World.cell? _ ⟨w.heap.size, 3, none⟩ = some (.slice none 0 0) := (B9.cell 3).trans rfl
                        have t4 : World.cell? _ ⟨w.heap.size, 4, none⟩ = some (.slice none 0 0) := (B9.cell 4).trans rfl
                        have t5 : World.cell? _ ⟨w.heap.size, 5, none⟩ = some (.string (bs [])) := (B9.cell 5).trans rfl
                        go_wp2
                        refine bodyPost_ret (v := .tuple #[pduV 0 false 0 (.slice none 0 0) (.slice none 0 0) [], .int .i64 0, .iface 31 (.int .i64 4)]) (by simp [results, Tryz.results51, go_sem, pduV, t0, t1, t2, t3, t4, t5]; rfl) rfl ?_
                        refine ⟨_, _, by rw [HRf.out]; rfl, by rw [HRf.out]; exact sl_nil _ _, by rw [HRf.out]; exact sl_nil _ _, ?_⟩
                        iterate 6 refine below_setc ?_ (Nat.le_refl w.heap.size) _ _
                        exact b9
                      · have HRf := hid (show readP s mode = _ by rw [HR5.out, if_neg hbig])
                        have hdb : decide ((100000 : Int) < (D : Int)) = false := decide_eq_false (by omega)
                        have u0 := BP9.free 0
                        have u1 := BP9.free 1
                        have u2 := BP9.free 2
                        have u3 := BP9.free 3
                        have u4 := BP9.free 4
                        have u5 := BP9.free 5
                        have y0 : World.cell? _ ⟨p, 0, none⟩ = some (.int .i64 H.op) := (BP9.cell 0).trans rfl
                        have y1 : World.cell? _ ⟨p, 1, none⟩ = some (.bool H.now) := (BP9.cell 1).trans rfl
                        have y2 : World.cell? _ ⟨p, 2, none⟩ = some (.int .i64 H.flags) := (BP9.cell 2).trans rfl
                        have y3 : World.cell? _ ⟨p, 3, none⟩ = some (.slice ha H.vals.length hc) := (BP9.cell 3).trans rfl
                        have y4 : World.cell? _ ⟨p, 4, none⟩ = some (.slice aa AL.length ac) := (BP9.cell 4).trans rfl
                        have y5 : World.cell? _ ⟨p, 5, none⟩ = some (.string (bs [])) := (BP9.cell 5).trans rfl
                        have v0 := B9.free 0
                        have v1 := B9.free 1
                        have v2 := B9.free 2
                        have v3 := B9.free 3
                        have v4 := B9.free 4
                        have v5 := B9.free 5
                        have t0 : World.cell? _ ⟨w.heap.size, 0, none⟩ = some (.int .i64 0) := (B9.cell 0).trans rfl
                        have t1 : World.cell? _ ⟨w.heap.size, 1, none⟩ = some (.bool false) := (B9.cell 1).trans rfl
                        have t2 : World.cell? _ ⟨w.heap.size, 2, none⟩ = some (.int .i64 0) := (B9.cell 2).trans rfl
                        have t3 : World.cell? _ ⟨w.heap.size, 3, none⟩ = some (.slice none 0 0) := (B9.cell 3).trans rfl
                        have t4 : World.cell? _ ⟨w.heap.size, 4, none⟩ = some (.slice none 0 0) := (B9.cell 4).trans rfl
                        have t5 : World.cell? _ ⟨w.heap.size, 5, none⟩ = some (.string (bs [])) := (B9.cell 5).trans rfl
                        go_wp2
                        have BPe := BP9.set 5 (.string (bs (R.take D)))
                        have hvf := vals_far HSL9.out BP9
                        have haf := ahs_far HSA9.out BP9
                        have hvh := vals_far HSL9.out B9
                        have hah := ahs_far HSA9.out B9
                        refine bodyPost_ret (v := .tuple #[pduV H.op H.now H.flags (.slice ha H.vals.length hc) (.slice aa AL.length ac) (R.take D), .int .i64 (all : Int), .nilIface]) (by simp [results, Tryz.results51, go_sem, pduV, t0, t1, t2, t3, t4, t5, y0, y1, y2, y3, y4, y5]) rfl ?_
                        have hs1 := sl_set (sl_set (sl_set (sl_set (sl_set (sl_set (sl_set HSL9.out p 5 (.string (bs (R.take D))) hvf) w.heap.size 0 (.int .i64 H.op) hvh) w.heap.size 1 (.bool H.now) hvh) w.heap.size 2 (.int .i64 H.flags) hvh) w.heap.size 3 (.slice ha H.vals.length hc) hvh) w.heap.size 4 (.slice aa AL.length ac) hvh) w.heap.size 5 (.string (bs (R.take D))) hvh
                        have hs2 := sl_set (sl_set (sl_set (sl_set (sl_set (sl_set (sl_set HSA9.out p 5 (.string (bs (R.take D))) haf) w.heap.size 0 (.int .i64 H.op) hah) w.heap.size 1 (.bool H.now) hah) w.heap.size 2 (.int .i64 H.flags) hah) w.heap.size 3 (.slice ha H.vals.length hc) hah) w.heap.size 4 (.slice aa AL.length ac) hah) w.heap.size 5 (.string (bs (R.take D))) hah
                        refine ⟨_, _, by rw [HRf.out]; rfl, by rw [HRf.out]; exact hs1, by rw [HRf.out]; exact hs2, ?_⟩
                        iterate 6 refine below_setc ?_ (Nat.le_refl w.heap.size) _ _
                        exact below_setc b9 hpw _ _
            · have HRf := hid (show readP s mode = rdNo (unpadE R (D : Int)) by rw [HR3.out, if_pos hU])
              refine ((cU1 hU) _).out.mono ?_
              rintro e W8 ⟨rfl, hb8⟩
              have B8 := B7.below hb8
              have b8 := b7.trans (hb8.mono b7.size)
              have hk0 := hU
              have v0 := B8.free 0
              have v1 := B8.free 1
              have v2 := B8.free 2
              have v3 := B8.free 3
              have v4 := B8.free 4
              have v5 := B8.free 5
              have t0 : World.cell? _ ⟨w.heap.size, 0, none⟩ = some (.int .i64 0) := (B8.cell 0).trans rfl
              have t1 : World.cell? _ ⟨w.heap.size, 1, none⟩ = some (.bool false) := (B8.cell 1).trans rfl
              have t2 : World.cell? _ ⟨w.heap.size, 2, none⟩ = some (.int .i64 0) := (B8.cell 2).trans rfl
              have t3 : World.cell? _ ⟨w.heap.size, 3, none⟩ = some (.slice none 0 0) := (B8.cell 3).trans rfl
              have t4 : World.cell? _ ⟨w.heap.size, 4, none⟩ = some (.slice none 0 0) := (B8.cell 4).trans rfl
              have t5 : World.cell? _ ⟨w.heap.size, 5, none⟩ = some (.string (bs [])) := (B8.cell 5).trans rfl
              go_wp2
              refine bodyPost_ret (v := .tuple #[pduV 0 false 0 (.slice none 0 0) (.slice none 0 0) [], .int .i64 0, .iface 31 (.int .i64 (unpadE R (D : Int) : Nat))]) (by simp [results, Tryz.results51, go_sem, pduV, t0, t1, t2, t3, t4, t5]; rfl) rfl ?_
              refine ⟨_, _, by rw [HRf.out]; simp only [rdNo, errV, hk0, if_false]; rfl, by rw [HRf.out]; exact sl_nil _ _, by rw [HRf.out]; exact sl_nil _ _, ?_⟩
              iterate 6 refine below_setc ?_ (Nat.le_refl w.heap.size) _ _
              exact b8
          · have HRf := hid (show readP s mode = rdNo ae by rw [HR2.out, if_pos hae])
            rw [if_neg hae, if_neg hae] at hsl2
            obtain ⟨aa, ac, rfl, _⟩ := hsl2
            have hef := err_far her2 BP6
            have HER7 := hid (err_set her2 p 4 (.slice aa 0 ac) hef)
            have B7 := blk_off B6 4 (.slice aa 0 ac) hhp
            have b7 := below_setc b6 hpw 4 (.slice aa 0 ac)
            have hk0 := hae
            cases her2
            case nil => exact absurd rfl hae
            case' bare => skip
            case' at_ => skip
            all_goals
              go_wp2_with fail
              refine (cT _ _ _ _ b7 HER7.out).out.mono ?_
              rintro e W8 ⟨rfl, hb8⟩
              have B8 := B7.below hb8
              have b8 := b7.trans (hb8.mono b7.size)
              have v0 := B8.free 0
              have v1 := B8.free 1
              have v2 := B8.free 2
              have v3 := B8.free 3
              have v4 := B8.free 4
              have v5 := B8.free 5
              have t0 : World.cell? _ ⟨w.heap.size, 0, none⟩ = some (.int .i64 0) := (B8.cell 0).trans rfl
              have t1 : World.cell? _ ⟨w.heap.size, 1, none⟩ = some (.bool false) := (B8.cell 1).trans rfl
              have t2 : World.cell? _ ⟨w.heap.size, 2, none⟩ = some (.int .i64 0) := (B8.cell 2).trans rfl
              have t3 : World.cell? _ ⟨w.heap.size, 3, none⟩ = some (.slice none 0 0) := (B8.cell 3).trans rfl
              have t4 : World.cell? _ ⟨w.heap.size, 4, none⟩ = some (.slice none 0 0) := (B8.cell 4).trans rfl
              have t5 : World.cell? _ ⟨w.heap.size, 5, none⟩ = some (.string (bs [])) := (B8.cell 5).trans rfl
              go_wp2
              refine bodyPost_ret (v := .tuple #[pduV 0 false 0 (.slice none 0 0) (.slice none 0 0) [], .int .i64 0, .iface 31 (.int .i64 (ae : Nat))]) (by simp [results, Tryz.results51, go_sem, pduV, t0, t1, t2, t3, t4, t5]; rfl) rfl ?_
              refine ⟨_, _, by rw [HRf.out]; simp only [rdNo, errV, hk0, if_false]; rfl, by rw [HRf.out]; exact sl_nil _ _, by rw [HRf.out]; exact sl_nil _ _, ?_⟩
              iterate 6 refine below_setc ?_ (Nat.le_refl w.heap.size) _ _
              exact b8
        · have HRf := hid (show readP s mode = rdNo H.e by rw [HR1.out, if_pos hHe])
          have hk0 := hHe
          generalize H.e = he at *
          cases her
          case nil => exact absurd rfl hHe
          case' bare => skip
          case' at_ => skip
          all_goals
            go_wp2_with fail
            refine (cT _ _ _ _ b5 HER5.out).out.mono ?_
            rintro e W8 ⟨rfl, hb8⟩
            have B8 := B5.below hb8
            have b8 := b5.trans (hb8.mono b5.size)
            have v0 := B8.free 0
            have v1 := B8.free 1
            have v2 := B8.free 2
            have v3 := B8.free 3
            have v4 := B8.free 4
            have v5 := B8.free 5
            have t0 : World.cell? _ ⟨w.heap.size, 0, none⟩ = some (.int .i64 0) := (B8.cell 0).trans rfl
            have t1 : World.cell? _ ⟨w.heap.size, 1, none⟩ = some (.bool false) := (B8.cell 1).trans rfl
            have t2 : World.cell? _ ⟨w.heap.size, 2, none⟩ = some (.int .i64 0) := (B8.cell 2).trans rfl
            have t3 : World.cell? _ ⟨w.heap.size, 3, none⟩ = some (.slice none 0 0) := (B8.cell 3).trans rfl
            have t4 : World.cell? _ ⟨w.heap.size, 4, none⟩ = some (.slice none 0 0) := (B8.cell 4).trans rfl
            have t5 : World.cell? _ ⟨w.heap.size, 5, none⟩ = some (.string (bs [])) := (B8.cell 5).trans rfl
            go_wp2
            refine bodyPost_ret (v := .tuple #[pduV 0 false 0 (.slice none 0 0) (.slice none 0 0) [], .int .i64 0, .iface 31 (.int .i64 (he : Nat))]) (by simp [results, Tryz.results51, go_sem, pduV, t0, t1, t2, t3, t4, t5]; rfl) rfl ?_
            refine ⟨_, _, by rw [HRf.out]; simp only [rdNo, errV, hk0, if_false]; rfl, by rw [HRf.out]; exact sl_nil _ _, by rw [HRf.out]; exact sl_nil _ _, ?_⟩
            iterate 6 refine below_setc ?_ (Nat.le_refl w.heap.size) _ _
            exact b8
      · obtain ⟨AT, hAT⟩ : ∃ AT, AT = E0 + 4 := ⟨_, rfl⟩
        have hRe : restL s true q2 = (s.take (allN s true q2)).drop AT := by rw [HRL.out, hAT]; rfl
        have hrp := HRP.out
        rw [hRe] at hrp
        have hal := HALL.out
        have hDK : 0 < D → K ≤ allN s true q2 - AT := by intro h; rw [hal]; simp; omega
        generalize allN s true q2 = all at *
        have hEa : AT ≤ all := by rw [hal]; simp; omega
        clear hal hRe
        have hATw : IntKind.i64.wrap ((E0 : Int) + 4) = (AT : Int) := by rw [IntKind.wrap_i64]; omega
        have slG : ∀ W, (Instr.slice 9 (.string (bs s)) (some (.int .i64 (E0 : Int))) (some (.int .i64 (AT : Int))) none).run Tryz.prog W = .ok (.string (bs ((s.drop E0).take 4))) W := fun W => by
          rw [str_ab s E0 AT (by omega) (by omega) (by omega) W, List.drop_take, hAT, Nat.add_sub_cancel_left]
        have slR : ∀ W, (Instr.slice 9 (.string (bs s)) (some (.int .i64 (AT : Int))) (some (.int .i64 (all : Int))) none).run Tryz.prog W = .ok (.string (bs ((s.take all).drop AT))) W := fun W => str_ab s AT all hEa (by omega) (by omega) W
        have hRl : ((s.take all).drop AT).length = all - AT := by simp; omega
        have HRK := hid (show K ≤ all - AT → ∀ AK, AK = AT + K → ∀ W, (Instr.slice 9 (.string (bs s)) (some (.int .i64 (AT : Int))) (some (.int .i64 (AK : Int))) none).run Tryz.prog W = .ok (.string (bs (((s.take all).drop AT).take K))) W from fun hk AK e W => by
          rw [str_ab s AT AK (by omega) (by omega) (by omega) W, take_drop_sub s AT AK K all e (by omega)])
        have HRD := hid (show K ≤ all - AT → ∀ AK, AK = AT + K → ∀ W, (Instr.slice 9 (.string (bs s)) (some (.int .i64 (AK : Int))) (some (.int .i64 (all : Int))) none).run Tryz.prog W = .ok (.string (bs (((s.take all).drop AT).drop K))) W from fun hk AK e W => by
          rw [str_ab s AK all (by omega) (by omega) (by omega) W, List.drop_drop, e])
        generalize (s.take all).drop AT = R at *
        have cU0 := fun (h : unpadE R (D : Int) = 0) w1 => hid (show Calls Tryz.prog 84 #[.string (bs R), .int .i64 (D : Int)] w1 (fun e w' => e = .returned (.tuple #[.string (bs (R.take D)), .int .i64 (K : Int), .nilIface]) ∧ Below w1.heap.size w1 w') from (unpad_any R (D : Int) w1 (by omega) (by omega) (by omega)).mono (by
          rintro e w' ⟨rfl, q, rfl⟩
          exact ⟨by rw [unpadV, if_pos h, hKI]; rfl, below_drewN (Below.refl _ _) _⟩))
        have cU1 := fun (h : ¬ unpadE R (D : Int) = 0) w1 => hid (show Calls Tryz.prog 84 #[.string (bs R), .int .i64 (D : Int)] w1 (fun e w' => e = .returned (.tuple #[.string (bs []), .int .i64 0, .iface 31 (.int .i64 (unpadE R (D : Int) : Nat))]) ∧ Below w1.heap.size w1 w') from (unpad_any R (D : Int) w1 (by omega) (by omega) (by omega)).mono (by
          rintro e w' ⟨rfl, q, rfl⟩
          exact ⟨by rw [unpadV, if_neg h], below_drewN (Below.refl _ _) _⟩))
        have cd1 := fun w1 => hid (dig_bs (s.take E0) w1 (by omega))
        obtain ⟨g1, hg1⟩ : ∃ g, (digL (s.take E0) == (s.drop E0).take 4) = g := ⟨_, rfl⟩
        rw [hg1] at hrp
        have HRP := hid hrp
        generalize (s.drop E0).take 4 = G4 at *
        have HK := hid hK; have HAT := hid hAT
        clear hK hAT hrp
        go_enter Tryz.func51, Tryz.ntmps51
        go_wp2_with fail
        refine (c1 _).out.mono ?_
        rintro e w2 ⟨rfl, hb2⟩
        have B2 := B1.below hb2
        have b2 := b1.trans (hb2.mono b1.size)
        simp only [errV]
        go_wp2_with fail
        refine wpIn_wide (n := 4).1 ?_
        refine region_puts (aF := ?kAd) [(42, .string (bs (s.take E0))), (43, .string (bs (digL (s.take E0)))), (44, .string (bs s)), (45, .int .i64 (E0 : Int)), (46, .int .i64 (E0 : Int)), (47, .int .i64 (AT : Int)), (48, .string (bs G4)), (49, .bool (!g1))] (fun W => Below w2.heap.size w2 W) ?kBd hmx (by kernel_rfl) (by kernel_rfl) (fun w w' h hb => h.trans (hb.mono h.size)) (Below.refl _ _).drew ?kCd ?kDd
        case kBd =>
          simp only [putAll, List.foldl_cons, List.foldl_nil, List.setIfInBounds_toArray, List.set_cons_zero, List.set_cons_succ]
          exact rfl
        case kCd =>
          have hrf : ∀ w : World, Below w.heap.size w w := fun w => Below.refl _ w
          refine ⟨?_, ?_, ?_, ?_, ?_, ?_, ?_, ?_, trivial⟩
          all_goals refine ⟨by simp, fun W h => ⟨?_, ?_⟩⟩
          all_goals first
            | (simp [go_sem, Oper.about]; done)
            | (simp [go_sem, Oper.about]; exact trivial)
            | skip
          all_goals first
            | (simp [OpTo, go_sem, hrf, hATw, slG, hg1]; done)
            | skip
          all_goals
            have hc := (cd1 W).out
            simp [OpTo, go_sem]
            refine callsIn_wide.2 (hc.mono ?_)
            rintro e w7 ⟨rfl, hb⟩
            exact ⟨rfl, hb⟩
        case kDd =>
          intro w3 hW3
          have B2b := B2.below hW3
          have b2b := b2.trans (hW3.mono b2.size)
          gi_wp2
          cases g1 with
          | false =>
            have HRf := hid (show readP s mode = rdNo 15 by rw [HRP.out, if_pos (by simp)])
            have v0 := B2b.free 0
            have v1 := B2b.free 1
            have v2 := B2b.free 2
            have v3 := B2b.free 3
            have v4 := B2b.free 4
            have v5 := B2b.free 5
            have t0 : World.cell? _ ⟨w.heap.size, 0, none⟩ = some (.int .i64 0) := (B2b.cell 0).trans rfl
            have t1 : World.cell? _ ⟨w.heap.size, 1, none⟩ = some (.bool false) := (B2b.cell 1).trans rfl
            have t2 : World.cell? _ ⟨w.heap.size, 2, none⟩ = some (.int .i64 0) := (B2b.cell 2).trans rfl
            have t3 : World.cell? _ ⟨w.heap.size, 3, none⟩ = some (.slice none 0 0) := (B2b.cell 3).trans rfl
            have t4 : World.cell? _ ⟨w.heap.size, 4, none⟩ = some (.slice none 0 0) := (B2b.cell 4).trans rfl
            have t5 : World.cell? _ ⟨w.heap.size, 5, none⟩ = some (.string (bs [])) := (B2b.cell 5).trans rfl
            go_wp2
            refine bodyPost_ret (v := .tuple #[pduV 0 false 0 (.slice none 0 0) (.slice none 0 0) [], .int .i64 0, .iface 31 (.int .i64 15)]) (by simp [results, Tryz.results51, go_sem, pduV, t0, t1, t2, t3, t4, t5]; rfl) rfl ?_
            refine ⟨_, _, by rw [HRf.out]; rfl, by rw [HRf.out]; exact sl_nil _ _, by rw [HRf.out]; exact sl_nil _ _, ?_⟩
            iterate 6 refine below_setc ?_ (Nat.le_refl w.heap.size) _ _
            exact b2b
          | true =>
            have HR1 := hid (show readP s mode = _ by rw [HRP.out, if_neg (by simp)])
            have BP := Blk.new w3 40 (pduC 0 false 0 none 0 0 none 0 0 (bs []))
            have hAP := (Below.refl w3.heap.size w3).alloc (Nat.le_refl _) (.cells (pduC 0 false 0 none 0 0 none 0 0 (bs [])) 40)
            have B3 := B2b.below hAP
            have b3 := b2b.trans (hAP.mono b2b.size)
            have hhp : w.heap.size ≠ w3.heap.size := by have := B2b.lt; omega
            have hpw : w.heap.size ≤ w3.heap.size := by have := B2b.lt; omega
            go_wp2_with fail
            refine (cR _ b3).out.mono ?_
            rintro e w4 ⟨hv, ev, rfl, her, hsl, hb4⟩
            unfold headV
            have HSL := hid hsl
            obtain ⟨ha, hc, rfl, _⟩ := hsl
            have BP4 := BP.below hb4
            have B4 := B3.below hb4
            have b4 := b3.trans (hb4.mono b3.size)
            clear BP B3 b3 hAP hb4
            generalize w3.heap.size = p at *
            have u0 := BP4.free 0; have u1 := BP4.free 1; have u2 := BP4.free 2; have u3 := BP4.free 3
            have y0 : w4.cell? ⟨p, 0, none⟩ = some (.int .i64 0) := (BP4.cell 0).trans rfl
            have y1 : w4.cell? ⟨p, 1, none⟩ = some (.bool false) := (BP4.cell 1).trans rfl
            have y2 : w4.cell? ⟨p, 2, none⟩ = some (.int .i64 0) := (BP4.cell 2).trans rfl
            have y3 : w4.cell? ⟨p, 3, none⟩ = some (.slice none 0 0) := (BP4.cell 3).trans rfl
            have BP5 : Blk ((((w4.setCell ⟨p, 0, none⟩ (.int .i64 H.op)).setCell ⟨p, 1, none⟩ (.bool H.now)).setCell ⟨p, 2, none⟩ (.int .i64 H.flags)).setCell ⟨p, 3, none⟩ (.slice ha H.vals.length hc)) p 40 (pduC H.op H.now H.flags ha H.vals.length hc none 0 0 (bs [])) := (((BP4.set 0 _).set 1 _).set 2 _).set 3 _
            have B5 := blk_off (blk_off (blk_off (blk_off B4 0 (.int .i64 H.op) hhp) 1 (.bool H.now) hhp) 2 (.int .i64 H.flags) hhp) 3 (.slice ha H.vals.length hc) hhp
            have b5 := below_setc (below_setc (below_setc (below_setc b4 hpw 0 (.int .i64 H.op)) hpw 1 (.bool H.now)) hpw 2 (.int .i64 H.flags)) hpw 3 (.slice ha H.vals.length hc)
            have hvf := vals_far HSL.out BP4
            have HSL5 := hid (sl_set (sl_set (sl_set (sl_set HSL.out p 0 (.int .i64 H.op) hvf) p 1 (.bool H.now) hvf) p 2 (.int .i64 H.flags) hvf) p 3 (.slice ha H.vals.length hc) hvf)
            have hef := err_far her BP4
            have HER5 := hid (err_set (err_set (err_set (err_set her p 0 (.int .i64 H.op) hef) p 1 (.bool H.now) hef) p 2 (.int .i64 H.flags) hef) p 3 (.slice ha H.vals.length hc) hef)
            clear hvf hef
            by_cases hHe : H.e = 0
            · have hda : H.data = (D : Int) := HDat.out hHe
              have HR2 := hid (show readP s mode = _ by rw [HR1.out, if_neg (by simp [hHe])])
              rw [hHe] at her
              obtain rfl := errIs_zeroH her
              rw [hda]
              clear her HER5
              go_wp2_with fail
              generalize hW5 : (((w4.setCell ⟨p, 0, none⟩ (.int .i64 H.op)).setCell ⟨p, 1, none⟩ (.bool H.now)).setCell ⟨p, 2, none⟩ (.int .i64 H.flags)).setCell ⟨p, 3, none⟩ (.slice ha H.vals.length hc) = W5 at *
              clear hW5 u0 u1 u2 u3 y0 y1 y2 y3 BP4 B4 b4
              refine (cA _ b5).out.mono ?_
              rintro e w6 ⟨⟨av, er, rfl, her2, hsl2⟩, hb6⟩
              have BP6 := BP5.below hb6
              have B6 := B5.below hb6
              have b6 := b5.trans (hb6.mono b5.size)
              have HSL6 := hid (HSL5.out.below (Nat.le_refl _) hb6)
              have u4 := BP6.free 4
              have y4 : w6.cell? ⟨p, 4, none⟩ = some (.slice none 0 0) := (BP6.cell 4).trans rfl
              have hvf := vals_far HSL6.out BP6
              by_cases hae : ae = 0
              · have HR3 := hid (show readP s mode = _ by rw [HR2.out, if_neg (by simp [hae])])
                rw [if_pos hae, if_pos hae] at hsl2
                rw [hae] at her2
                obtain rfl := errIs_zeroH her2
                have HSA := hid hsl2
                obtain ⟨aa, ac, rfl, _⟩ := hsl2
                have haf := ahs_far HSA.out BP6
                have BP7 : Blk (w6.setCell ⟨p, 4, none⟩ (.slice aa AL.length ac)) p 40 (pduC H.op H.now H.flags ha H.vals.length hc aa AL.length ac (bs [])) := BP6.set 4 _
                have B7 := blk_off B6 4 (.slice aa AL.length ac) hhp
                have b7 := below_setc b6 hpw 4 (.slice aa AL.length ac)
                have HSL7 := hid (sl_set HSL6.out p 4 (.slice aa AL.length ac) hvf)
                have HSA7 := hid (sl_set HSA.out p 4 (.slice aa AL.length ac) haf)
                clear her2 hvf haf
                go_wp2_with fail
                generalize hW7 : w6.setCell ⟨p, 4, none⟩ (.slice aa AL.length ac) = W7 at *
                clear hW7 u4 y4 BP6 B6 b6
                by_cases hU : unpadE R (D : Int) = 0
                · have HR4 := hid (show readP s mode = _ by rw [HR3.out, if_neg (by simp [hU])])
                  refine ((cU0 hU) _).out.mono ?_
                  rintro e W8 ⟨rfl, hb8⟩
                  have BP8 := BP7.below hb8
                  have B8 := B7.below hb8
                  have b8 := b7.trans (hb8.mono b7.size)
                  have HSL8 := hid (HSL7.out.below (Nat.le_refl _) hb8)
                  have HSA8 := hid (HSA7.out.below (by omega) hb8)
                  obtain ⟨q3, hq3⟩ : ∃ q, decide (0 < D) = q := ⟨_, rfl⟩
                  go_wp2_with fail
                  cases q2 with
                  | false =>
                    have HR5 := hid (show readP s mode = _ by rw [HR4.out, if_neg (by simp)])
                    refine wpIn_wide (n := 4).1 ?_
                    refine region_guard (aF := ?kAq2fAT) [(96, .int .i64 mode), (97, .int .i64 (bits .and .i64 mode 2)), (98, .bool false), (99, .bool false), (100, undef), (101, undef), (102, .bool false), (103, .bool false), (104, undef), (105, undef), (106, undef), (107, undef), (108, undef), (109, undef), (110, undef), (111, undef), (112, undef), (113, undef), (114, undef), (115, undef), (116, undef), (117, undef), (118, .bool false)] (fun W => Below W8.heap.size W8 W) ?kBq2fAT hmx (by kernel_rfl) (by kernel_rfl) (Below.refl _ _).drew ?kCq2fAT ?kDq2fAT
                    case kBq2fAT =>
                      simp only [putAll, List.foldl_cons, List.foldl_nil, List.setIfInBounds_toArray, List.set_cons_zero, List.set_cons_succ]
                      exact rfl
                    case kCq2fAT =>
                      refine ⟨?_, ?_, ?_, ?_, ?_, ?_, ?_, ?_, ?_, ?_, ?_, ?_, ?_, ?_, ?_, ?_, ?_, ?_, ?_, ?_, ?_, ?_, ?_, trivial⟩
                      all_goals refine ⟨fun d hd => by simp at hd <;> (subst hd; simp), ?_⟩
                      all_goals first
                        | refine .inl ⟨by first | exact trivial | exact ⟨by simp, rfl⟩, fun W h => ⟨?_, ?_⟩⟩
                        | refine .inr ⟨⟨by simp, rfl⟩, fun d hd => by simp at hd <;> (subst hd; rfl), fun W h f hf => by first | (simp [go_sem, Oper.about] at hf; done) | trivial⟩
                        | refine .inr ⟨⟨by simp, rfl⟩, fun d hd => by simp at hd <;> (subst hd; rfl), fun W h f hf => trivial⟩
                      all_goals first
                        | (simp [go_sem, Oper.about]; done)
                        | (simp [go_sem, Oper.about]; exact trivial)
                        | skip
                      all_goals first
                        | (simp [OpInv, go_sem, h, hq2, hq3]; done)
                        | skip
                    case kDq2fAT =>
                      intro W9 hW9
                      have BP9 := BP8.below hW9
                      have B9 := B8.below hW9
                      have b9 := b8.trans (hW9.mono b8.size)
                      have HSL9 := hid (HSL8.out.below (Nat.le_refl _) hW9)
                      have HSA9 := hid (HSA8.out.below (by omega) hW9)
                      gi_wp2
                      by_cases hbig : 100000 < D
                      · have HRf := hid (show readP s mode = rdNo 4 by rw [HR5.out, if_pos hbig])
                        have hdb : decide ((100000 : Int) < (D : Int)) = true := decide_eq_true (by omega)
                        have v0 := B9.free 0
                        have v1 := B9.free 1
                        have v2 := B9.free 2
                        have v3 := B9.free 3
                        have v4 := B9.free 4
                        have v5 := B9.free 5
                        have t0 : World.cell? _ ⟨w.heap.size, 0, none⟩ = some (.int .i64 0) := (B9.cell 0).trans rfl
                        have t1 : World.cell? _ ⟨w.heap.size, 1, none⟩ = some (.bool false) := (B9.cell 1).trans rfl
                        have t2 : World.cell? _ ⟨w.heap.size, 2, none⟩ = some (.int .i64 0) := (B9.cell 2).trans rfl
                        have t3 : World.cell? _ ⟨w.heap.size, 3, none⟩ = some (.slice none 0 0) := (B9.cell 3).trans rfl
                        have t4 : World.cell? _ ⟨w.heap.size, 4, none⟩ = some (.slice none 0 0) := (B9.cell 4).trans rfl
                        have t5 : World.cell? _ ⟨w.heap.size, 5, none⟩ = some (.string (bs [])) := (B9.cell 5).trans rfl
                        go_wp2
                        refine bodyPost_ret (v := .tuple #[pduV 0 false 0 (.slice none 0 0) (.slice none 0 0) [], .int .i64 0, .iface 31 (.int .i64 4)]) (by simp [results, Tryz.results51, go_sem, pduV, t0, t1, t2, t3, t4, t5]; rfl) rfl ?_
                        refine ⟨_, _, by rw [HRf.out]; rfl, by rw [HRf.out]; exact sl_nil _ _, by rw [HRf.out]; exact sl_nil _ _, ?_⟩
                        iterate 6 refine below_setc ?_ (Nat.le_refl w.heap.size) _ _
                        exact b9
                      · have HRf := hid (show readP s mode = _ by rw [HR5.out, if_neg hbig])
                        have hdb : decide ((100000 : Int) < (D : Int)) = false := decide_eq_false (by omega)
                        have u0 := BP9.free 0
                        have u1 := BP9.free 1
                        have u2 := BP9.free 2
                        have u3 := BP9.free 3
                        have u4 := BP9.free 4
                        have u5 := BP9.free 5
                        have y0 : World.cell? _ ⟨p, 0, none⟩ = some (.int .i64 H.op) := (BP9.cell 0).trans rfl
                        have y1 : World.cell? _ ⟨p, 1, none⟩ = some (.bool H.now) := (BP9.cell 1).trans rfl
                        have y2 : World.cell? _ ⟨p, 2, none⟩ = some (.int .i64 H.flags) := (BP9.cell 2).trans rfl
                        have y3 : World.cell? _ ⟨p, 3, none⟩ = some (.slice ha H.vals.length hc) := (BP9.cell 3).trans rfl
                        have y4 : World.cell? _ ⟨p, 4, none⟩ = some (.slice aa AL.length ac) := (BP9.cell 4).trans rfl
                        have y5 : World.cell? _ ⟨p, 5, none⟩ = some (.string (bs [])) := (BP9.cell 5).trans rfl
                        have v0 := B9.free 0
                        have v1 := B9.free 1
                        have v2 := B9.free 2
                        have v3 := B9.free 3
                        have v4 := B9.free 4
                        have v5 := B9.free 5
                        have t0 : World.cell? _ ⟨w.heap.size, 0, none⟩ = some (.int .i64 0) := (B9.cell 0).trans rfl
                        have t1 : World.cell? _ ⟨w.heap.size, 1, none⟩ = some (.bool false) := (B9.cell 1).trans rfl
                        have t2 : World.cell? _ ⟨w.heap.size, 2, none⟩ = some (.int .i64 0) := (B9.cell 2).trans rfl
                        have t3 : World.cell? _ ⟨w.heap.size, 3, none⟩ = some (.slice none 0 0) := (B9.cell 3).trans rfl
                        have t4 : World.cell? _ ⟨w.heap.size, 4, none⟩ = some (.slice none 0 0) := (B9.cell 4).trans rfl
                        have t5 : World.cell? _ ⟨w.heap.size, 5, none⟩ = some (.string (bs [])) := (B9.cell 5).trans rfl
                        go_wp2
                        have BPe := BP9.set 5 (.string (bs (R.take D)))
                        have hvf := vals_far HSL9.out BP9
                        have haf := ahs_far HSA9.out BP9
                        have hvh := vals_far HSL9.out B9
                        have hah := ahs_far HSA9.out B9
                        refine bodyPost_ret (v := .tuple #[pduV H.op H.now H.flags (.slice ha H.vals.length hc) (.slice aa AL.length ac) (R.take D), .int .i64 (all : Int), .nilIface]) (by simp [results, Tryz.results51, go_sem, pduV, t0, t1, t2, t3, t4, t5, y0, y1, y2, y3, y4, y5]) rfl ?_
                        have hs1 := sl_set (sl_set (sl_set (sl_set (sl_set (sl_set (sl_set HSL9.out p 5 (.string (bs (R.take D))) hvf) w.heap.size 0 (.int .i64 H.op) hvh) w.heap.size 1 (.bool H.now) hvh) w.heap.size 2 (.int .i64 H.flags) hvh) w.heap.size 3 (.slice ha H.vals.length hc) hvh) w.heap.size 4 (.slice aa AL.length ac) hvh) w.heap.size 5 (.string (bs (R.take D))) hvh
                        have hs2 := sl_set (sl_set (sl_set (sl_set (sl_set (sl_set (sl_set HSA9.out p 5 (.string (bs (R.take D))) haf) w.heap.size 0 (.int .i64 H.op) hah) w.heap.size 1 (.bool H.now) hah) w.heap.size 2 (.int .i64 H.flags) hah) w.heap.size 3 (.slice ha H.vals.length hc) hah) w.heap.size 4 (.slice aa AL.length ac) hah) w.heap.size 5 (.string (bs (R.take D))) hah
                        refine ⟨_, _, by rw [HRf.out]; rfl, by rw [HRf.out]; exact hs1, by rw [HRf.out]; exact hs2, ?_⟩
                        iterate 6 refine below_setc ?_ (Nat.le_refl w.heap.size) _ _
                        exact below_setc b9 hpw _ _
                  | true =>
                    cases q3 with
                    | false =>
                      have HR5 := hid (show readP s mode = _ by rw [HR4.out, if_neg (by simp [hq3])])
                      refine wpIn_wide (n := 4).1 ?_
                      refine region_guard (aF := ?kAq3fAT) [(96, .int .i64 mode), (97, .int .i64 (bits .and .i64 mode 2)), (98, .bool true), (99, .bool true), (100, .int .i64 (D : Int)), (101, .bool false), (102, .bool false), (103, .bool false), (104, undef), (105, undef), (106, undef), (107, undef), (108, undef), (109, undef), (110, undef), (111, undef), (112, undef), (113, undef), (114, undef), (115, undef), (116, undef), (117, undef), (118, .bool false)] (fun W => Below W8.heap.size W8 W) ?kBq3fAT hmx (by kernel_rfl) (by kernel_rfl) (Below.refl _ _).drew ?kCq3fAT ?kDq3fAT
                      case kBq3fAT =>
                        simp only [putAll, List.foldl_cons, List.foldl_nil, List.setIfInBounds_toArray, List.set_cons_zero, List.set_cons_succ]
                        exact rfl
                      case kCq3fAT =>
                        refine ⟨?_, ?_, ?_, ?_, ?_, ?_, ?_, ?_, ?_, ?_, ?_, ?_, ?_, ?_, ?_, ?_, ?_, ?_, ?_, ?_, ?_, ?_, ?_, trivial⟩
                        all_goals refine ⟨fun d hd => by simp at hd <;> (subst hd; simp), ?_⟩
                        all_goals first
                          | refine .inl ⟨by first | exact trivial | exact ⟨by simp, rfl⟩, fun W h => ⟨?_, ?_⟩⟩
                          | refine .inr ⟨⟨by simp, rfl⟩, fun d hd => by simp at hd <;> (subst hd; rfl), fun W h f hf => by first | (simp [go_sem, Oper.about] at hf; done) | trivial⟩
                          | refine .inr ⟨⟨by simp, rfl⟩, fun d hd => by simp at hd <;> (subst hd; rfl), fun W h f hf => trivial⟩
                        all_goals first
                          | (simp [go_sem, Oper.about]; done)
                          | (simp [go_sem, Oper.about]; exact trivial)
                          | skip
                        all_goals first
                          | (simp [OpInv, go_sem, h, hq2, hq3]; done)
                          | skip
                      case kDq3fAT =>
                        intro W9 hW9
                        have BP9 := BP8.below hW9
                        have B9 := B8.below hW9
                        have b9 := b8.trans (hW9.mono b8.size)
                        have HSL9 := hid (HSL8.out.below (Nat.le_refl _) hW9)
                        have HSA9 := hid (HSA8.out.below (by omega) hW9)
                        gi_wp2
                        by_cases hbig : 100000 < D
                        · have HRf := hid (show readP s mode = rdNo 4 by rw [HR5.out, if_pos hbig])
                          have hdb : decide ((100000 : Int) < (D : Int)) = true := decide_eq_true (by omega)
                          have v0 := B9.free 0
                          have v1 := B9.free 1
                          have v2 := B9.free 2
                          have v3 := B9.free 3
                          have v4 := B9.free 4
                          have v5 := B9.free 5
                          have t0 : World.cell? _ ⟨w.heap.size, 0, none⟩ = some (.int .i64 0) := (B9.cell 0).trans rfl
                          have t1 : World.cell? _ ⟨w.heap.size, 1, none⟩ = some (.bool false) := (B9.cell 1).trans rfl
                          have t2 : World.cell? _ ⟨w.heap.size, 2, none⟩ = some (.int .i64 0) := (B9.cell 2).trans rfl
                          have t3 : World.cell? _ ⟨w.heap.size, 3, none⟩ = some (.slice none 0 0) := (B9.cell 3).trans rfl
                          have t4 : World.cell? _ ⟨w.heap.size, 4, none⟩ = some (.slice none 0 0) := (B9.cell 4).trans rfl
                          have t5 : World.cell? _ ⟨w.heap.size, 5, none⟩ = some (.string (bs [])) := (B9.cell 5).trans rfl
                          go_wp2
                          refine bodyPost_ret (v := .tuple #[pduV 0 false 0 (.slice none 0 0) (.slice none 0 0) [], .int .i64 0, .iface 31 (.int .i64 4)]) (by simp [results, Tryz.results51, go_sem, pduV, t0, t1, t2, t3, t4, t5]; rfl) rfl ?_
                          refine ⟨_, _, by rw [HRf.out]; rfl, by rw [HRf.out]; exact sl_nil _ _, by rw [HRf.out]; exact sl_nil _ _, ?_⟩
                          iterate 6 refine below_setc ?_ (Nat.le_refl w.heap.size) _ _
                          exact b9
                        · have HRf := hid (show readP s mode = _ by rw [HR5.out, if_neg hbig])
                          have hdb : decide ((100000 : Int) < (D : Int)) = false := decide_eq_false (by omega)
                          have u0 := BP9.free 0
                          have u1 := BP9.free 1
                          have u2 := BP9.free 2
                          have u3 := BP9.free 3
                          have u4 := BP9.free 4
                          have u5 := BP9.free 5
                          have y0 : World.cell? _ ⟨p, 0, none⟩ = some (.int .i64 H.op) := (BP9.cell 0).trans rfl
                          have y1 : World.cell? _ ⟨p, 1, none⟩ = some (.bool H.now) := (BP9.cell 1).trans rfl
                          have y2 : World.cell? _ ⟨p, 2, none⟩ = some (.int .i64 H.flags) := (BP9.cell 2).trans rfl
                          have y3 : World.cell? _ ⟨p, 3, none⟩ = some (.slice ha H.vals.length hc) := (BP9.cell 3).trans rfl
                          have y4 : World.cell? _ ⟨p, 4, none⟩ = some (.slice aa AL.length ac) := (BP9.cell 4).trans rfl
                          have y5 : World.cell? _ ⟨p, 5, none⟩ = some (.string (bs [])) := (BP9.cell 5).trans rfl
                          have v0 := B9.free 0
                          have v1 := B9.free 1
                          have v2 := B9.free 2
                          have v3 := B9.free 3
                          have v4 := B9.free 4
                          have v5 := B9.free 5
                          have t0 : World.cell? _ ⟨w.heap.size, 0, none⟩ = some (.int .i64 0) := (B9.cell 0).trans rfl
                          have t1 : World.cell? _ ⟨w.heap.size, 1, none⟩ = some (.bool false) := (B9.cell 1).trans rfl
                          have t2 : World.cell? _ ⟨w.heap.size, 2, none⟩ = some (.int .i64 0) := (B9.cell 2).trans rfl
                          have t3 : World.cell? _ ⟨w.heap.size, 3, none⟩ = some (.slice none 0 0) := (B9.cell 3).trans rfl
                          have t4 : World.cell? _ ⟨w.heap.size, 4, none⟩ = some (.slice none 0 0) := (B9.cell 4).trans rfl
                          have t5 : World.cell? _ ⟨w.heap.size, 5, none⟩ = some (.string (bs [])) := (B9.cell 5).trans rfl
                          go_wp2
                          have BPe := BP9.set 5 (.string (bs (R.take D)))
                          have hvf := vals_far HSL9.out BP9
                          have haf := ahs_far HSA9.out BP9
                          have hvh := vals_far HSL9.out B9
                          have hah := ahs_far HSA9.out B9
                          refine bodyPost_ret (v := .tuple #[pduV H.op H.now H.flags (.slice ha H.vals.length hc) (.slice aa AL.length ac) (R.take D), .int .i64 (all : Int), .nilIface]) (by simp [results, Tryz.results51, go_sem, pduV, t0, t1, t2, t3, t4, t5, y0, y1, y2, y3, y4, y5]) rfl ?_
                          have hs1 := sl_set (sl_set (sl_set (sl_set (sl_set (sl_set (sl_set HSL9.out p 5 (.string (bs (R.take D))) hvf) w.heap.size 0 (.int .i64 H.op) hvh) w.heap.size 1 (.bool H.now) hvh) w.heap.size 2 (.int .i64 H.flags) hvh) w.heap.size 3 (.slice ha H.vals.length hc) hvh) w.heap.size 4 (.slice aa AL.length ac) hvh) w.heap.size 5 (.string (bs (R.take D))) hvh
                          have hs2 := sl_set (sl_set (sl_set (sl_set (sl_set (sl_set (sl_set HSA9.out p 5 (.string (bs (R.take D))) haf) w.heap.size 0 (.int .i64 H.op) hah) w.heap.size 1 (.bool H.now) hah) w.heap.size 2 (.int .i64 H.flags) hah) w.heap.size 3 (.slice ha H.vals.length hc) hah) w.heap.size 4 (.slice aa AL.length ac) hah) w.heap.size 5 (.string (bs (R.take D))) hah
                          refine ⟨_, _, by rw [HRf.out]; rfl, by rw [HRf.out]; exact hs1, by rw [HRf.out]; exact hs2, ?_⟩
                          iterate 6 refine below_setc ?_ (Nat.le_refl w.heap.size) _ _
                          exact below_setc b9 hpw _ _
                    | true =>
                      obtain ⟨AK, hAK⟩ : ∃ AK, AK = AT + K := ⟨_, rfl⟩
                      have hKl : K ≤ all - AT := hDK (by simpa using hq3)
                      have hAKw : IntKind.i64.wrap ((AT : Int) + (K : Int)) = (AK : Int) := by rw [IntKind.wrap_i64]; omega
                      have slRK : ∀ W, (Instr.slice 9 (.string (bs s)) (some (.int .i64 (AT : Int))) (some (.int .i64 (AK : Int))) none).run Tryz.prog W = .ok (.string (bs (R.take K))) W := HRK.out hKl AK hAK
                      have slRR : ∀ W, (Instr.slice 9 (.string (bs s)) (some (.int .i64 (AK : Int))) (some (.int .i64 (all : Int))) none).run Tryz.prog W = .ok (.string (bs (R.drop K))) W := HRD.out hKl AK hAK
                      have cd := fun w1 => hid (dig_bs (R.take K) w1 (by simp; omega))
                      obtain ⟨g2, hg2⟩ : ∃ g, (digL (R.take K) == R.drop K) = g := ⟨_, rfl⟩
                      refine wpIn_wide (n := 4).1 ?_
                      refine region_guard (aF := ?kAfullAT) [(96, .int .i64 mode), (97, .int .i64 (bits .and .i64 mode 2)), (98, .bool true), (99, .bool true), (100, .int .i64 (D : Int)), (101, .bool true), (102, .bool true), (103, .bool true), (104, .string (bs s)), (105, .int .i64 (AT : Int)), (106, .int .i64 (AT : Int)), (107, .int .i64 (K : Int)), (108, .int .i64 (AK : Int)), (109, .string (bs (R.take K))), (110, .string (bs (digL (R.take K)))), (111, .string (bs s)), (112, .int .i64 (AT : Int)), (113, .int .i64 (K : Int)), (114, .int .i64 (AK : Int)), (115, .int .i64 (all : Int)), (116, .string (bs (R.drop K))), (117, .bool (!g2)), (118, .bool (!g2))] (fun W => Below W8.heap.size W8 W) ?kBfullAT hmx (by kernel_rfl) (by kernel_rfl) (Below.refl _ _).drew ?kCfullAT ?kDfullAT
                      case kBfullAT =>
                        simp only [putAll, List.foldl_cons, List.foldl_nil, List.setIfInBounds_toArray, List.set_cons_zero, List.set_cons_succ]
                        exact rfl
                      case kCfullAT =>
                        refine ⟨?_, ?_, ?_, ?_, ?_, ?_, ?_, ?_, ?_, ?_, ?_, ?_, ?_, ?_, ?_, ?_, ?_, ?_, ?_, ?_, ?_, ?_, ?_, trivial⟩
                        all_goals refine ⟨fun d hd => by simp at hd <;> (subst hd; simp), ?_⟩
                        all_goals first
                          | refine .inl ⟨by first | exact trivial | exact ⟨by simp, rfl⟩, fun W h => ⟨?_, ?_⟩⟩
                          | refine .inr ⟨⟨by simp, rfl⟩, fun d hd => by simp at hd <;> (subst hd; rfl), fun W h f hf => by first | (simp [go_sem, Oper.about] at hf; done) | trivial⟩
                          | refine .inr ⟨⟨by simp, rfl⟩, fun d hd => by simp at hd <;> (subst hd; rfl), fun W h f hf => trivial⟩
                        all_goals first
                          | (simp [go_sem, Oper.about]; done)
                          | (simp [go_sem, Oper.about]; exact trivial)
                          | skip
                        all_goals first
                          | (simp [OpInv, go_sem, h, hq2, hq3, hg2, hAKw, slRK, slRR]; done)
                          | skip
                        all_goals
                          have hc := (cd W).out
                          simp [OpInv, go_sem]
                          refine callsIn_wide.2 (hc.mono ?_)
                          rintro e w7 ⟨rfl, hb⟩
                          exact ⟨_, rfl, rfl, h.trans (hb.mono h.size)⟩
                      case kDfullAT =>
                        intro W9 hW9
                        have BP9 := BP8.below hW9
                        have B9 := B8.below hW9
                        have b9 := b8.trans (hW9.mono b8.size)
                        have HSL9 := hid (HSL8.out.below (Nat.le_refl _) hW9)
                        have HSA9 := hid (HSA8.out.below (by omega) hW9)
                        gi_wp2
                        cases g2 with
                        | false =>
                          have HRf := hid (show readP s mode = rdNo 13 by rw [HR4.out, if_pos (by rw [hq3, hg2]; rfl)])
                          have v0 := B9.free 0
                          have v1 := B9.free 1
                          have v2 := B9.free 2
                          have v3 := B9.free 3
                          have v4 := B9.free 4
                          have v5 := B9.free 5
                          have t0 : World.cell? _ ⟨w.heap.size, 0, none⟩ = some (.int .i64 0) := (B9.cell 0).trans rfl
                          have t1 : World.cell? _ ⟨w.heap.size, 1, none⟩ = some (.bool false) := (B9.cell 1).trans rfl
                          have t2 : World.cell? _ ⟨w.heap.size, 2, none⟩ = some (.int .i64 0) := (B9.cell 2).trans rfl
                          have t3 : World.cell? _ ⟨w.heap.size, 3, none⟩ = some (.slice none 0 0) := (B9.cell 3).trans rfl
                          have t4 : World.cell? _ ⟨w.heap.size, 4, none⟩ = some (.slice none 0 0) := (B9.cell 4).trans rfl
                          have t5 : World.cell? _ ⟨w.heap.size, 5, none⟩ = some (.string (bs [])) := (B9.cell 5).trans rfl
                          go_wp2
                          refine bodyPost_ret (v := .tuple #[pduV 0 false 0 (.slice none 0 0) (.slice none 0 0) [], .int .i64 0, .iface 31 (.int .i64 13)]) (by simp [results, Tryz.results51, go_sem, pduV, t0, t1, t2, t3, t4, t5]; rfl) rfl ?_
                          refine ⟨_, _, by rw [HRf.out]; rfl, by rw [HRf.out]; exact sl_nil _ _, by rw [HRf.out]; exact sl_nil _ _, ?_⟩
                          iterate 6 refine below_setc ?_ (Nat.le_refl w.heap.size) _ _
                          exact b9
                        | true =>
                          have HR5 := hid (show readP s mode = _ by rw [HR4.out, if_neg (by simp [hq3, hg2])])
                          by_cases hbig : 100000 < D
                          · have HRf := hid (show readP s mode = rdNo 4 by rw [HR5.out, if_pos hbig])
                            have hdb : decide ((100000 : Int) < (D : Int)) = true := decide_eq_true (by omega)
                            have v0 := B9.free 0
                            have v1 := B9.free 1
                            have v2 := B9.free 2
                            have v3 := B9.free 3
                            have v4 := B9.free 4
                            have v5 := B9.free 5
                            have t0 : World.cell? _ ⟨w.heap.size, 0, none⟩ = some (.int .i64 0) := (B9.cell 0).trans rfl
                            have t1 : World.cell? _ ⟨w.heap.size, 1, none⟩ = some (.bool false) := (B9.cell 1).trans rfl
                            have t2 : World.cell? _ ⟨w.heap.size, 2, none⟩ = some (.int .i64 0) := (B9.cell 2).trans rfl
                            have t3 : World.cell? _ ⟨w.heap.size, 3, none⟩ = some (.slice none 0 0) := (B9.cell 3).trans rfl
                            have t4 : World.cell? _ ⟨w.heap.size, 4, none⟩ = some (.slice none 0 0) := (B9.cell 4).trans rfl
                            have t5 : World.cell? _ ⟨w.heap.size, 5, none⟩ = some (.string (bs [])) := (B9.cell 5).trans rfl
                            go_wp2
                            refine bodyPost_ret (v := .tuple #[pduV 0 false 0 (.slice none 0 0) (.slice none 0 0) [], .int .i64 0, .iface 31 (.int .i64 4)]) (by simp [results, Tryz.results51, go_sem, pduV, t0, t1, t2, t3, t4, t5]; rfl) rfl ?_
                            refine ⟨_, _, by rw [HRf.out]; rfl, by rw [HRf.out]; exact sl_nil _ _, by rw [HRf.out]; exact sl_nil _ _, ?_⟩
                            iterate 6 refine below_setc ?_ (Nat.le_refl w.heap.size) _ _
                            exact b9
                          · have HRf := hid (show readP s mode = _ by rw [HR5.out, if_neg hbig])
                            have hdb : decide ((100000 : Int) < (D : Int)) = false := decide_eq_false (by omega)
                            have u0 := BP9.free 0
                            have u1 := BP9.free 1
                            have u2 := BP9.free 2
                            have u3 := BP9.free 3
                            have u4 := BP9.free 4
                            have u5 := BP9.free 5
                            have y0 : World.cell? _ ⟨p, 0, none⟩ = some (.int .i64 H.op) := (BP9.cell 0).trans rfl
                            have y1 : World.cell? _ ⟨p, 1, none⟩ = some (.bool H.now) := (BP9.cell 1).trans rfl
                            have y2 : World.cell? _ ⟨p, 2, none⟩ = some (.int .i64 H.flags) := (BP9.cell 2).trans rfl
                            have y3 : World.cell? _ ⟨p, 3, none⟩ = some (.slice ha H.vals.length hc) := (BP9.cell 3).trans rfl
                            have y4 : World.cell? _ ⟨p, 4, none⟩ = some (.slice aa AL.length ac) := (BP9.cell 4).trans rfl
                            have y5 : World.cell? _ ⟨p, 5, none⟩ = some (.string (bs [])) := (BP9.cell 5).trans rfl
                            have v0 := B9.free 0
                            have v1 := B9.free 1
                            have v2 := B9.free 2
                            have v3 := B9.free 3
                            have v4 := B9.free 4
                            have v5 := B9.free 5
                            have t0 : World.cell? _ ⟨w.heap.size, 0, none⟩ = some (.int .i64 0) := (B9.cell 0).trans rfl
                            have t1 : World.cell? _ ⟨w.heap.size, 1, none⟩ = some (.bool false) := (B9.cell 1).trans rfl
                            have t2 : World.cell? _ ⟨w.heap.size, 2, none⟩ = some (.int .i64 0) := (B9.cell 2).trans rfl
                            have t3 : World.cell? _ ⟨w.heap.size, 3, none⟩ = some (.slice none 0 0) := (B9.cell 3).trans rfl
                            have t4 : World.cell? _ ⟨w.heap.size, 4, none⟩ = some (.slice none 0 0) := (B9.cell 4).trans rfl
                            have t5 : World.cell? _ ⟨w.heap.size, 5, none⟩ = some (.string (bs [])) := (B9.cell 5).trans rfl
                            go_wp2
                            have BPe := BP9.set 5 (.string (bs (R.take D)))
                            have hvf := vals_far HSL9.out BP9
                            have haf := ahs_far HSA9.out BP9
                            have hvh := vals_far HSL9.out B9
                            have hah := ahs_far HSA9.out B9
                            refine bodyPost_ret (v := .tuple #[pduV H.op H.now H.flags (.slice ha H.vals.length hc) (.slice aa AL.length ac) (R.take D), .int .i64 (all : Int), .nilIface]) (by simp [results, Tryz.results51, go_sem, pduV, t0, t1, t2, t3, t4, t5, y0, y1, y2, y3, y4, y5]) rfl ?_
                            have hs1 := sl_set (sl_set (sl_set (sl_set (sl_set (sl_set (sl_set HSL9.out p 5 (.string (bs (R.take D))) hvf) w.heap.size 0 (.int .i64 H.op) hvh) w.heap.size 1 (.bool H.now) hvh) w.heap.size 2 (.int .i64 H.flags) hvh) w.heap.size 3 (.slice ha H.vals.length hc) hvh) w.heap.size 4 (.slice aa AL.length ac) hvh) w.heap.size 5 (.string (bs (R.take D))) hvh
                            have hs2 := sl_set (sl_set (sl_set (sl_set (sl_set (sl_set (sl_set HSA9.out p 5 (.string (bs (R.take D))) haf) w.heap.size 0 (.int .i64 H.op) hah) w.heap.size 1 (.bool H.now) hah) w.heap.size 2 (.int .i64 H.flags) hah) w.heap.size 3 (.slice ha H.vals.length hc) hah) w.heap.size 4 (.slice aa AL.length ac) hah) w.heap.size 5 (.string (bs (R.take D))) hah
                            refine ⟨_, _, by rw [HRf.out]; rfl, by rw [HRf.out]; exact hs1, by rw [HRf.out]; exact hs2, ?_⟩
                            iterate 6 refine below_setc ?_ (Nat.le_refl w.heap.size) _ _
                            exact below_setc b9 hpw _ _
                · have HRf := hid (show readP s mode = rdNo (unpadE R (D : Int)) by rw [HR3.out, if_pos hU])
                  refine ((cU1 hU) _).out.mono ?_
                  rintro e W8 ⟨rfl, hb8⟩
                  have B8 := B7.below hb8
                  have b8 := b7.trans (hb8.mono b7.size)
                  have hk0 := hU
                  have v0 := B8.free 0
                  have v1 := B8.free 1
                  have v2 := B8.free 2
                  have v3 := B8.free 3
                  have v4 := B8.free 4
                  have v5 := B8.free 5
                  have t0 : World.cell? _ ⟨w.heap.size, 0, none⟩ = some (.int .i64 0) := (B8.cell 0).trans rfl
                  have t1 : World.cell? _ ⟨w.heap.size, 1, none⟩ = some (.bool false) := (B8.cell 1).trans rfl
                  have t2 : World.cell? _ ⟨w.heap.size, 2, none⟩ = some (.int .i64 0) := (B8.cell 2).trans rfl
                  have t3 : World.cell? _ ⟨w.heap.size, 3, none⟩ = some (.slice none 0 0) := (B8.cell 3).trans rfl
                  have t4 : World.cell? _ ⟨w.heap.size, 4, none⟩ = some (.slice none 0 0) := (B8.cell 4).trans rfl
                  have t5 : World.cell? _ ⟨w.heap.size, 5, none⟩ = some (.string (bs [])) := (B8.cell 5).trans rfl
                  go_wp2
                  refine bodyPost_ret (v := .tuple #[pduV 0 false 0 (.slice none 0 0) (.slice none 0 0) [], .int .i64 0, .iface 31 (.int .i64 (unpadE R (D : Int) : Nat))]) (by simp [results, Tryz.results51, go_sem, pduV, t0, t1, t2, t3, t4, t5]; rfl) rfl ?_
                  refine ⟨_, _, by rw [HRf.out]; simp only [rdNo, errV, hk0, if_false]; rfl, by rw [HRf.out]; exact sl_nil _ _, by rw [HRf.out]; exact sl_nil _ _, ?_⟩
                  iterate 6 refine below_setc ?_ (Nat.le_refl w.heap.size) _ _
                  exact b8
              · have HRf := hid (show readP s mode = rdNo ae by rw [HR2.out, if_pos hae])
                rw [if_neg hae, if_neg hae] at hsl2
                obtain ⟨aa, ac, rfl, _⟩ := hsl2
                have hef := err_far her2 BP6
                have HER7 := hid (err_set her2 p 4 (.slice aa 0 ac) hef)
                have B7 := blk_off B6 4 (.slice aa 0 ac) hhp
                have b7 := below_setc b6 hpw 4 (.slice aa 0 ac)
                have hk0 := hae
                cases her2
                case nil => exact absurd rfl hae
                case' bare => skip
                case' at_ => skip
                all_goals
                  go_wp2_with fail
                  refine (cT _ _ _ _ b7 HER7.out).out.mono ?_
                  rintro e W8 ⟨rfl, hb8⟩
                  have B8 := B7.below hb8
                  have b8 := b7.trans (hb8.mono b7.size)
                  have v0 := B8.free 0
                  have v1 := B8.free 1
                  have v2 := B8.free 2
                  have v3 := B8.free 3
                  have v4 := B8.free 4
                  have v5 := B8.free 5
                  have t0 : World.cell? _ ⟨w.heap.size, 0, none⟩ = some (.int .i64 0) := (B8.cell 0).trans rfl
                  have t1 : World.cell? _ ⟨w.heap.size, 1, none⟩ = some (.bool false) := (B8.cell 1).trans rfl
                  have t2 : World.cell? _ ⟨w.heap.size, 2, none⟩ = some (.int .i64 0) := (B8.cell 2).trans rfl
                  have t3 : World.cell? _ ⟨w.heap.size, 3, none⟩ = some (.slice none 0 0) := (B8.cell 3).trans rfl
                  have t4 : World.cell? _ ⟨w.heap.size, 4, none⟩ = some (.slice none 0 0) := (B8.cell 4).trans rfl
                  have t5 : World.cell? _ ⟨w.heap.size, 5, none⟩ = some (.string (bs [])) := (B8.cell 5).trans rfl
                  go_wp2
                  refine bodyPost_ret (v := .tuple #[pduV 0 false 0 (.slice none 0 0) (.slice none 0 0) [], .int .i64 0, .iface 31 (.int .i64 (ae : Nat))]) (by simp [results, Tryz.results51, go_sem, pduV, t0, t1, t2, t3, t4, t5]; rfl) rfl ?_
                  refine ⟨_, _, by rw [HRf.out]; simp only [rdNo, errV, hk0, if_false]; rfl, by rw [HRf.out]; exact sl_nil _ _, by rw [HRf.out]; exact sl_nil _ _, ?_⟩
                  iterate 6 refine below_setc ?_ (Nat.le_refl w.heap.size) _ _
                  exact b8
            · have HRf := hid (show readP s mode = rdNo H.e by rw [HR1.out, if_pos hHe])
              have hk0 := hHe
              generalize H.e = he at *
              cases her
              case nil => exact absurd rfl hHe
              case' bare => skip
              case' at_ => skip
              all_goals
                go_wp2_with fail
                refine (cT _ _ _ _ b5 HER5.out).out.mono ?_
                rintro e W8 ⟨rfl, hb8⟩
                have B8 := B5.below hb8
                have b8 := b5.trans (hb8.mono b5.size)
                have v0 := B8.free 0
                have v1 := B8.free 1
                have v2 := B8.free 2
                have v3 := B8.free 3
                have v4 := B8.free 4
                have v5 := B8.free 5
                have t0 : World.cell? _ ⟨w.heap.size, 0, none⟩ = some (.int .i64 0) := (B8.cell 0).trans rfl
                have t1 : World.cell? _ ⟨w.heap.size, 1, none⟩ = some (.bool false) := (B8.cell 1).trans rfl
                have t2 : World.cell? _ ⟨w.heap.size, 2, none⟩ = some (.int .i64 0) := (B8.cell 2).trans rfl
                have t3 : World.cell? _ ⟨w.heap.size, 3, none⟩ = some (.slice none 0 0) := (B8.cell 3).trans rfl
                have t4 : World.cell? _ ⟨w.heap.size, 4, none⟩ = some (.slice none 0 0) := (B8.cell 4).trans rfl
                have t5 : World.cell? _ ⟨w.heap.size, 5, none⟩ = some (.string (bs [])) := (B8.cell 5).trans rfl
                go_wp2
                refine bodyPost_ret (v := .tuple #[pduV 0 false 0 (.slice none 0 0) (.slice none 0 0) [], .int .i64 0, .iface 31 (.int .i64 (he : Nat))]) (by simp [results, Tryz.results51, go_sem, pduV, t0, t1, t2, t3, t4, t5]; rfl) rfl ?_
                refine ⟨_, _, by rw [HRf.out]; simp only [rdNo, errV, hk0, if_false]; rfl, by rw [HRf.out]; exact sl_nil _ _, by rw [HRf.out]; exact sl_nil _ _, ?_⟩
                iterate 6 refine below_setc ?_ (Nat.le_refl w.heap.size) _ _
                exact b8
  · have HRf := hid (show readP s mode = rdNo (sizeP s mode).2 by unfold readP; rw [if_pos hk0])
    generalize hsz : sizeP s mode = Z at *
    obtain ⟨z1, z2⟩ := Z
    simp only at hk0 c1 HRf
    simp only [errV, hk0, if_false] at c1
    go_enter Tryz.func51, Tryz.ntmps51
    go_wp2_with fail
    refine (c1 _).out.mono ?_
    rintro e w2 ⟨rfl, hb2⟩
    have B2 := B1.below hb2
    have b2 := b1.trans (hb2.mono b1.size)
    have v0 := B2.free 0
    have v1 := B2.free 1
    have v2 := B2.free 2
    have v3 := B2.free 3
    have v4 := B2.free 4
    have v5 := B2.free 5
    have t0 : World.cell? _ ⟨w.heap.size, 0, none⟩ = some (.int .i64 0) := (B2.cell 0).trans rfl
    have t1 : World.cell? _ ⟨w.heap.size, 1, none⟩ = some (.bool false) := (B2.cell 1).trans rfl
    have t2 : World.cell? _ ⟨w.heap.size, 2, none⟩ = some (.int .i64 0) := (B2.cell 2).trans rfl
    have t3 : World.cell? _ ⟨w.heap.size, 3, none⟩ = some (.slice none 0 0) := (B2.cell 3).trans rfl
    have t4 : World.cell? _ ⟨w.heap.size, 4, none⟩ = some (.slice none 0 0) := (B2.cell 4).trans rfl
    have t5 : World.cell? _ ⟨w.heap.size, 5, none⟩ = some (.string (bs [])) := (B2.cell 5).trans rfl
    go_wp2
    refine bodyPost_ret (v := .tuple #[pduV 0 false 0 (.slice none 0 0) (.slice none 0 0) [], .int .i64 0, .iface 31 (.int .i64 (z2 : Nat))]) (by simp [results, Tryz.results51, go_sem, pduV, t0, t1, t2, t3, t4, t5]; rfl) rfl ?_
    refine ⟨_, _, by rw [HRf.out]; simp only [rdNo, errV, hk0, if_false]; rfl, by rw [HRf.out]; exact sl_nil _ _, by rw [HRf.out]; exact sl_nil _ _, ?_⟩
    iterate 6 refine below_setc ?_ (Nat.le_refl w.heap.size) _ _
    exact b2
end
end Go.Proofs.YtfeenkofnbefaaaGreatDoor
