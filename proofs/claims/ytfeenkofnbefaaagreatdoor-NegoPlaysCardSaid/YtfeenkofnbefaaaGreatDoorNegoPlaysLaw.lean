/- The walk of the law NegoPlays: it returns true. -/
import Derived.Test.YtfeenkofnbefaaaGreatDoorThick
import Derived.Deep.RegionHeld3
set_option linter.unusedSectionVars false
set_option linter.unusedSimpArgs false
set_option linter.unusedVariables false
namespace Go.Proofs.YtfeenkofnbefaaaGreatDoor
open Go Go.RowKit
set_option linter.unusedVariables false
set_option linter.unusedSectionVars false
set_option linter.unusedSimpArgs false
set_option maxRecDepth 100000
def RNP1 (n : Nat) (w : World) (i : Value) (wr : World) : Prop := ∃ k : Nat, k ≤ n ∧ i = .int .i64 (k : Nat) ∧ Below w.heap.size w wr
theorem KeptS.owns {S : Nat → Prop} {a w : World} (hk : KeptS S a w) {base : Nat} {e : TypeId} {size n : Nat} {v : Value} {xs : List Value} (h : a.ownsRow base e size v n xs) (hn : ∀ q, v.ownBlock = some q → ¬ S q) : w.ownsRow base e size v n xs := by
  rcases h.2 with h0 | ⟨g, cap, cur, rfl, hb, hg, h3⟩
  · exact ⟨h.1, .inl h0⟩
  · have hlt : g < a.heap.size := by
      rcases Nat.lt_or_ge g a.heap.size with h1 | h1
      · exact h1
      · rw [Array.getElem?_eq_none h1] at hg; cases hg
    exact ⟨h.1, .inr ⟨g, cap, cur, rfl, hb, (hk.block g hlt (hn g rfl)).trans hg, h3⟩⟩
/-- both sides, in the midst of the rounds -/
structure Both (w wr : World) (gx gr : Nat) (ov mv rvx rvr : Value) (own rx rr : PL) : Prop where
  X : NegoS wr w.heap.size gx ov rvx own rx
  R : RNegoS wr w.heap.size gr mv rvr own rr
  hgx : w.heap.size ≤ gx
  hgr : w.heap.size ≤ gr
  ne : gx ≠ gr
  xr : rvx.ownBlock ≠ some gr
  rx' : rvr.ownBlock ≠ some gx
  ap : ∀ q, rvx.ownBlock = some q → rvr.ownBlock ≠ some q
  fo : FarO ov own (SN gr rvr)
  fm : FarO mv own (fun q => w.heap.size ≤ q)
  b : Below w.heap.size w wr
section
variable {w wr : World} {gx gr : Nat} {ov mv rvx rvr : Value} {own rx rr : PL}
theorem Both.sx (h : Both w wr gx gr ov mv rvx rvr own rx rr) : ∀ q, SN gx rvx q → w.heap.size ≤ q := fun q hq => by
  rcases hq with rfl | hq
  · exact h.hgx
  · exact (h.X.hrv.lt q hq).1
theorem Both.sr (h : Both w wr gx gr ov mv rvx rvr own rx rr) : ∀ q, SN gr rvr q → w.heap.size ≤ q := fun q hq => by
  rcases hq with rfl | hq
  · exact h.hgr
  · exact (h.R.hrv.lt q hq).1
theorem Both.below {w1 : World} (h : Both w wr gx gr ov mv rvx rvr own rx rr) (hb : Below wr.heap.size wr w1) : Both w w1 gx gr ov mv rvx rvr own rx rr :=
  ⟨h.X.below hb, h.R.below hb, h.hgx, h.hgr, h.ne, h.xr, h.rx', h.ap, h.fo, h.fm, h.b.trans (hb.mono h.b.size)⟩
theorem Both.stepR {w1 : World} {rvr' : Value} {rr' : PL} (h : Both w wr gx gr ov mv rvx rvr own rx rr) (hR : RNegoS w1 w.heap.size gr mv rvr' own rr') (rb : rvr'.ownBlock = rvr.ownBlock ∨ ∃ q, rvr'.ownBlock = some q ∧ wr.heap.size ≤ q) (K : KeptS (SN gr rvr) wr w1) :
    Both w w1 gx gr ov mv rvx rvr' own rx rr' := by
  have hxl := h.X.blk.lt
  have hns : ¬ SN gr rvr gx := fun hs => by
    rcases hs with hs | hs
    · exact h.ne hs
    · exact h.rx' hs
  refine ⟨⟨K.blk h.X.blk hns, h.X.hov.kept h.fo K, K.owns h.X.hrv (fun q hq hs => by
    rcases hs with rfl | hs
    · exact h.xr hq
    · exact h.ap q hq hs), h.X.sg, h.X.so⟩, hR, h.hgx, h.hgr, h.ne, h.xr, ?_, ?_, ?_, h.fm, h.b.trans (K.toBelow h.sr h.b.size)⟩
  · rcases rb with h1 | ⟨q, h1, h2⟩
    · rw [h1]; exact h.rx'
    · rw [h1]; intro e; have := Option.some.inj e; omega
  · intro q hq
    rcases rb with h1 | ⟨q', h1, h2⟩
    · rw [h1]; exact h.ap q hq
    · rw [h1]; intro e; have h3 := Option.some.inj e; have h4 := (h.X.hrv.lt q hq).2; omega
  · rcases rb with h1 | ⟨q, h1, h2⟩
    · refine h.fo.mono fun k hk => ?_
      rcases hk with hk | hk
      · exact .inl hk
      · exact .inr (h1 ▸ hk)
    · rcases FarO.lt h.X.hov with h0 | ⟨b', o', n', c', hv, hlt'⟩
      · exact .inl h0
      · rcases h.fo with h0 | ⟨b2, o2, n2, c2, hv2, hn2⟩
        · exact .inl h0
        · rw [hv] at hv2
          cases hv2
          refine .inr ⟨b', o', n', c', hv, fun hs => ?_⟩
          rcases hs with hs | hs
          · exact hn2 (.inl hs)
          · rw [h1] at hs; have := Option.some.inj hs; omega
theorem Both.stepX {w1 : World} {rvx' : Value} {rx2 : PL} (h : Both w wr gx gr ov mv rvx rvr own rx rr) (hX : NegoS w1 w.heap.size gx ov rvx' own rx2) (rb : rvx'.ownBlock = rvx.ownBlock ∨ ∃ q, rvx'.ownBlock = some q ∧ wr.heap.size ≤ q) (K : KeptS (SN gx rvx) wr w1) :
    Both w w1 gx gr ov mv rvx' rvr own rx2 rr := by
  have hrl := h.R.blk.lt
  have hns : ¬ SN gx rvx gr := fun hs => by
    rcases hs with hs | hs
    · exact h.ne hs.symm
    · exact h.xr hs
  refine ⟨hX, ⟨K.blk h.R.blk hns, h.R.hov.kept (h.fm.mono h.sx) K, K.owns h.R.hrv (fun q hq hs => by
    rcases hs with rfl | hs
    · exact h.rx' hq
    · exact h.ap q hs hq), h.R.sg, h.R.so⟩, h.hgx, h.hgr, h.ne, ?_, h.rx', ?_, h.fo, h.fm, h.b.trans (K.toBelow h.sx h.b.size)⟩
  · rcases rb with h1 | ⟨q, h1, h2⟩
    · rw [h1]; exact h.xr
    · rw [h1]; intro e; have := Option.some.inj e; omega
  · intro q hq
    rcases rb with h1 | ⟨q', h1, h2⟩
    · exact h.ap q (h1 ▸ hq)
    · rw [h1] at hq; have h3 := Option.some.inj hq; intro e; have h4 := (h.R.hrv.lt q e).2; omega
end
def RNP2 (n : Nat) (w : World) (gx gr : Nat) (ov mv : Value) (own : PL) (M : Nat) (i : Value) (wr : World) : Prop :=
  ∃ (k : Nat) (rec : PL) (rvx rvr : Value), k ≤ n ∧ i = .int .i64 (k : Nat) ∧ rec.length ≤ 60 * k ∧ (∀ y ∈ rec, y.1.length ≤ M) ∧ Both w wr gx gr ov mv rvx rvr own rec rec
section
variable (mv lv : Value) (own : PL) (L : List RD) (key : List UInt8) (w : World) (h : PSl w mv own) (hbd : PBd own) (hcap : ∀ a c, mv = .slice a own.length c → own.length ≤ c) (hL : RdSl w lv L) (hkey : key.length ≤ 9223372036854775807)
  (hg : EType w) (hT : AS w) (hev : EV w) (hP : PT w) (hM : ML w)
include h hbd hcap hL hkey hg hT hev hP hM
set_option maxHeartbeats 16000000 in
theorem negoPlays_law : Calls Tryz.prog 5 #[mv, lv, .string (bs key)] w fun e w' => e = .returned (.bool true) ∧ Below w.heap.size w w' := by
  obtain ⟨LA, lc, rfl, hLn, hLc⟩ := hL
  have HLC := hid hLc
  have c0 := hid (thick_any mv own w h hbd)
  unfold WideP at c0
  clear hLc
  go_enter Tryz.func5, Tryz.ntmps5
  go_wp2_with fail
  refine c0.out.mono ?_
  rintro e w0 ⟨⟨b0, rfl⟩, hb0⟩
  cases b0 with
  | true =>
    go_wp2
    go_ret
    exact ⟨rfl, hb0⟩
  | false =>
  by_cases h20 : 20 < L.length
  · have d20 : decide ((20 : Int) < (L.length : Int)) = true := decide_eq_true (by omega)
    clear h20
    go_wp2
    go_ret
    exact ⟨rfl, hb0⟩
  have d20 : decide ((20 : Int) < (L.length : Int)) = false := decide_eq_false (by omega)
  by_cases h100 : 100 < key.length
  · have d100 : decide ((100 : Int) < (key.length : Int)) = true := decide_eq_true (by omega)
    clear h100
    go_wp2
    go_ret
    exact ⟨rfl, hb0⟩
  have d100 : decide ((100 : Int) < (key.length : Int)) = false := decide_eq_false (by omega)
  have hL20 : L.length ≤ 20 := by omega
  clear h20 h100 c0
  go_wp2
  go_loopw [41] (fun i wr => RNP1 L.length w i wr) (fun i _ => L.length - (intOf i).toNat)
  case atStart => exact ⟨0, by omega, rfl, hb0⟩
  case round =>
    clear hb0
    obtain ⟨k, hk, rfl, hb⟩ := hrel
    have hB := hb.size
    by_cases hlt : k < L.length
    · obtain ⟨x, hx⟩ : ∃ x, L[k]? = some x := ⟨L[k]'hlt, List.getElem?_eq_getElem hlt⟩
      obtain ⟨b, o, rfl, hcell⟩ := HLC.out.resolve_left (by omega)
      obtain ⟨c0, c1, c2, hRd⟩ := hcell k x hx
      have hbl := block_lt_of_cell c0
      have g0 := (hb.cell (p := ⟨b, o + k * 3, none⟩) hbl).trans c0
      have g1 := (hb.cell (p := ⟨b, o + k * 3 + 1, none⟩) hbl).trans c1
      have g2 := (hb.cell (p := ⟨b, o + k * 3 + 2, none⟩) hbl).trans c2
      clear hcell c0 c1 c2 hx
      obtain ⟨xa, xc, xo, xl, xd⟩ := x
      obtain ⟨hPx, hBx, hCx⟩ := hRd
      simp only at g0 g1 g2 hPx hBx hCx
      obtain ⟨W6, hW6⟩ : ∃ W6, wr.alloc (.cells #[.slice xa xo.length xc, .bool xl, .bool xd] 82) = W6 := ⟨_, rfl⟩
      have hA6 : Below wr.heap.size wr W6 := by rw [← hW6]; exact (Below.refl _ _).alloc (Nat.le_refl _) _
      have p0 : W6.cell? ⟨wr.heap.size, 0, none⟩ = some (.slice xa xo.length xc) := by rw [← hW6]; simp
      have p1 : W6.cell? ⟨wr.heap.size, 1, none⟩ = some (.bool xl) := by rw [← hW6]; simp
      have p2 : W6.cell? ⟨wr.heap.size, 2, none⟩ = some (.bool xd) := by rw [← hW6]; simp
      have hlt6 : wr.heap.size < W6.heap.size := by rw [← hW6]; simp
      have b6 := hb.trans (hA6.mono hb.size)
      have ct := hid (thick_any _ xo W6 (hPx.below b6) hBx)
      unfold WideP at ct
      go_wp2_with fail
      refine ct.out.mono ?_
      rintro e w2 ⟨⟨b2, rfl⟩, hb2⟩
      have b22 := b6.trans (hb2.mono b6.size)
      cases b2 with
      | true =>
        go_wp2
        go_ret
        exact ⟨rfl, b22⟩
      | false =>
        go_wp2
        exact ⟨⟨k + 1, by omega, by go_num, b22⟩, by simp [intOf]; omega⟩
    · obtain rfl : k = L.length := by omega
      have hlt2 : ¬ ((L.length : Int) < (L.length : Int)) := by omega
      have cR := hid (rnew_all mv own wr (h.below hb) hbd (hg.below hb) (hP.below hb (Nat.le_refl _)))
      have cX := fun W (hq : Below w.heap.size w W) => hid (new_all mv own W (h.below hq) hbd (hg.below hq) hcap (hT.below hq (Nat.le_refl _)) (hev.below hq))
      unfold RNegoPost at cR
      unfold NegoPost at cX
      have cp := fun v w1 k pl (hq : Below w.heap.size w w1) hv => hid (placed_ok v k pl w1 (hg.below hq) hv)
      have cis := fun k pl W => hid (faultIs_any k pl W)
      unfold faultV at cis cR
      have HGN := hid (fun (h0 : (negoP own).1 = 0) => show (pairsR own).1 = 0 from by
        by_cases hp : (pairsR own).1 = 0
        · exact hp
        · rw [negoP_pairs own hp] at h0; exact absurd h0 hp)
      generalize hN : negoP own = N at *
      obtain ⟨nk, npl⟩ := N
      simp only at *
      clear hN hk hlt
      go_wp2_with fail
      refine cR.out.mono ?_
      rintro e w1 ⟨⟨pr, rfl, hr1, hr0⟩, hb1⟩
      have b1 := hb.trans (hb1.mono hB)
      have bF := b1.alloc b1.size (.cells #[.int .i64 (nk : Nat), .int .i64 npl] 72)
      have F0 := Blk.new w1 72 #[.int .i64 (nk : Nat), .int .i64 npl]
      have hzF : (w1.alloc (.cells #[.int .i64 (nk : Nat), .int .i64 npl] 72)).heap.size = w1.heap.size + 1 := by simp
      go_wp2_with fail
      refine (cX _ bF).out.mono ?_
      rintro e w2 ⟨⟨px, er, rfl, her, hx1, hx0⟩, hb2⟩
      have b2 := bF.trans (hb2.mono bF.size)
      have F2 := F0.below hb2
      have f0 : w2.cell? ⟨w1.heap.size, 0, none⟩ = some (.int .i64 (nk : Nat)) := F2.cell 0
      have f1 : w2.cell? ⟨w1.heap.size, 1, none⟩ = some (.int .i64 npl) := F2.cell 1
      have hFl := F2.lt
      go_wp2_with fail
      refine (cp _ _ _ _ b2 her).out.mono ?_
      rintro e w3 ⟨rfl, hb3⟩
      have b3 := b2.trans (hb3.mono b2.size)
      have f0 := (hb3.cell (p := ⟨w1.heap.size, 0, none⟩) hFl).trans f0
      have f1 := (hb3.cell (p := ⟨w1.heap.size, 1, none⟩) hFl).trans f1
      by_cases hnk : nk = 0
      · subst hnk
        obtain ⟨gr, rfl, hRat⟩ := hr0 rfl
        obtain ⟨gx, rfl, hXat⟩ := hx0 rfl
        have hgd := pairsR_good (HGN.out rfl)
        clear hr0 hr1 hx0 hx1 her cp cX cR HGN
        go_wp2_with fail
        refine (cis _ _ _).out.mono ?_
        rintro e w4 ⟨rfl, hb4⟩
        have b4 := b3.trans (hb4.mono b3.size)
        obtain ⟨hgr0, hRb⟩ := hRat
        obtain ⟨ov, hgx0, hXb, hXo⟩ := hXat
        have hRb' : Blk w1 gr 95 #[mv, .slice none 0 0] := hRb
        have hXb' : Blk w2 gx 159 #[ov, .slice none 0 0] := hXb
        have hrl := hRb'.lt
        have hRb4 := (((hRb'.below ((Below.refl _ _).alloc (Nat.le_refl _) _)).below hb2).below hb3).below hb4
        have hXb4 := (hXb'.below hb3).below hb4
        have hXo4 := owns_below (owns_below hXo hb3) hb4
        have hfov : ∀ q, ov.ownBlock = some q → q ≠ gx ∧ w1.heap.size < q := fun q hq => by
          rcases hXo.2 with ⟨rfl, _⟩ | ⟨q', cap, cur, rfl, hbq, hgq, _⟩
          · simp [Value.ownBlock] at hq
          · have hqq : q' = q := by simpa [Value.ownBlock] using hq
            subst hqq
            refine ⟨?_, by omega⟩
            rintro rfl
            unfold Blk at hXb'
            rw [hXb'] at hgq
            simp at hgq
        have hfo : ∀ (S : Nat → Prop), (∀ q, ov.ownBlock = some q → ¬ S q) → FarO ov own S := fun S hS => by
          rcases hXo.2 with ⟨_, h0⟩ | ⟨q', cap, cur, rfl, hbq, hgq, _⟩
          · exact .inl h0
          · exact .inr ⟨q', 0, _, _, rfl, hS q' rfl⟩
        have HBoth : Both w w4 gx gr ov mv (.slice none 0 0) (.slice none 0 0) own [] [] :=
          ⟨⟨hXb4, psl_of_owns hXo4, World.ownsRow_nil _ _ _ _, by simp [Value.ownBlock], hfo _ (fun q hq hs => by
              rcases hs with hs | hs
              · exact (hfov q hq).1 hs
              · simp [Value.ownBlock] at hs)⟩,
           ⟨hRb4, h.below b4, World.ownsRow_nil _ _ _ _, by simp [Value.ownBlock], FarO.new h (fun k hk => by
              rcases hk with rfl | hk
              · omega
              · simp [Value.ownBlock] at hk)⟩,
           by omega, by omega, by omega, by simp [Value.ownBlock], by simp [Value.ownBlock], fun q hq => by simp [Value.ownBlock] at hq, hfo _ (fun q hq hs => by
              rcases hs with rfl | hs
              · have := (hfov _ hq).2; omega
              · simp [Value.ownBlock] at hs), FarO.new h (fun k hk => hk), b4⟩
        have HB4 := hid HBoth
        clear HBoth hfo hfov hRb hXb hXo hRb' hXb' hRb4 hXb4 hXo4 F0 F2 f0 f1 hb1 hb2 hb3 hb4 bF b1 b2 b3 b4 hzF hrl hgr0 hgx0 hb hB hFl
        go_wp2
        go_loopw [74] (fun i wr => RNP2 L.length w gx gr ov mv own 9223372036854775807 i wr) (fun i _ => L.length - (intOf i).toNat)
        case atStart => exact ⟨0, [], _, _, by omega, rfl, by simp, by simp, HB4.out⟩
        case round =>
          clear HB4
          obtain ⟨k, rec, rvx, rvr, hk, rfl, hrlen, hrkey, hBo⟩ := hrel
          have hb := hBo.b
          have hB := hb.size
          by_cases hlt : k < L.length
          · obtain ⟨x, hx⟩ : ∃ x, L[k]? = some x := ⟨L[k]'hlt, List.getElem?_eq_getElem hlt⟩
            obtain ⟨b, o, rfl, hcell⟩ := HLC.out.resolve_left (by omega)
            obtain ⟨c0, c1, c2, hRd⟩ := hcell k x hx
            have hbl := block_lt_of_cell c0
            have g0 := (hb.cell (p := ⟨b, o + k * 3, none⟩) hbl).trans c0
            have g1 := (hb.cell (p := ⟨b, o + k * 3 + 1, none⟩) hbl).trans c1
            have g2 := (hb.cell (p := ⟨b, o + k * 3 + 2, none⟩) hbl).trans c2
            clear hcell c0 c1 c2 hx
            obtain ⟨xa, xc, xo, xl, xd⟩ := x
            obtain ⟨hPx, hBx, hCx⟩ := hRd
            simp only at g0 g1 g2 hPx hBx hCx
            obtain ⟨W6, hW6⟩ : ∃ W6, wr.alloc (.cells #[.slice xa xo.length xc, .bool xl, .bool xd] 82) = W6 := ⟨_, rfl⟩
            have hA6 : Below wr.heap.size wr W6 := by rw [← hW6]; exact (Below.refl _ _).alloc (Nat.le_refl _) _
            have p0 : W6.cell? ⟨wr.heap.size, 0, none⟩ = some (.slice xa xo.length xc) := by rw [← hW6]; simp
            have p1 : W6.cell? ⟨wr.heap.size, 1, none⟩ = some (.bool xl) := by rw [← hW6]; simp
            have p2 : W6.cell? ⟨wr.heap.size, 2, none⟩ = some (.bool xd) := by rw [← hW6]; simp
            have hlt6 : wr.heap.size < W6.heap.size := by rw [← hW6]; simp
            have b6 := hb.trans (hA6.mono hb.size)
            have Bo6 := hBo.below hA6
            have P6 : Blk W6 wr.heap.size 82 #[.slice xa xo.length xc, .bool xl, .bool xd] := by rw [← hW6]; exact Blk.new _ _ _
            have hgxl := hBo.X.blk.lt
            have hgrl := hBo.R.blk.lt
            have hxlt : ∀ q, SN gx rvx q → q < wr.heap.size := fun q hq => by
              rcases hq with rfl | hq
              · exact hgxl
              · exact (hBo.X.hrv.lt q hq).2
            have hrlt : ∀ q, SN gr rvr q → q < wr.heap.size := fun q hq => by
              rcases hq with rfl | hq
              · exact hgrl
              · exact (hBo.R.hrv.lt q hq).2
            have hn60 : (pairsR xo).1 = 0 → xo.length ≤ 60 ∧ ∀ k, (xo.getD k ([], [])).2.length ≤ 100000 := fun h0 => ⟨(pairsR_good h0).1, fun k => by have := (pairsR_good h0).2 k; omega⟩
            have hown2 : ∀ k, (own.getD k ([], [])).2.length ≤ 100000 := fun k => by have := hgd.2 k; omega
            have cRA := hid (rAnswer_all own xo rec xl xd w.heap.size gr mv rvr (.slice xa xo.length xc) W6 Bo6.R b6.size (hPx.below b6) (FarO.new hPx Bo6.sr) hBx hn60 (by omega) (fun j => by
                rcases Nat.lt_or_ge j rec.length with hj | hj
                · exact hrkey _ (by rw [List.getD, List.getElem?_eq_getElem hj]; exact List.getElem_mem hj)
                · rw [List.getD, List.getElem?_eq_none hj]; simp) (by omega) hown2 (fun w' K => ⟨hP.below (b6.trans ((K.toBelow Bo6.sr b6.size).mono (Nat.le_refl _) |> fun q => ⟨q.os, q.tape, q.output, q.size, q.block⟩)) (Nat.le_refl _), hM.below (b6.trans (K.toBelow Bo6.sr b6.size))⟩))
            have cXA := fun W8 (Bo : Both w W8 gx gr ov mv rvx rvr own rec rec) => True
            have hob := outP_bd own xo rec xl xd 9223372036854775807 (fun y hy => by
                obtain ⟨j, hj, rfl⟩ := List.getElem_of_mem hy
                have := (hBx.2 j).1
                rw [List.getD, List.getElem?_eq_getElem hj] at this
                exact this) hrkey (fun h0 => (hn60 h0).1)
            unfold RAnsPost faultV at cRA
            rw [outR_eq] at cRA
            have cXAll := fun W8 (rvr2 : Value) (rr : PL) (Bo : Both w W8 gx gr ov mv rvx rvr2 own rec rr) => hid (nAnswer_all own xo rec xl xd w.heap.size gx ov rvx (.slice xa xo.length xc) W8 Bo.X Bo.b.size (hPx.below Bo.b) (FarO.new hPx Bo.sx) hBx hn60 (fun a c e => by cases e; exact hCx) (by omega) (by omega) hown2 (hT.below Bo.b (Nat.le_refl _)) (hev.below Bo.b) (hP.below Bo.b (Nat.le_refl _)) (fun w' K => by
                have q := Bo.b.trans (K.toBelow Bo.sx Bo.b.size)
                exact ⟨hT.below q (Nat.le_refl _), hev.below q, hP.below q (Nat.le_refl _)⟩))
            unfold NAnsPost at cXAll
            generalize offP xo rec xl = opv at *
            obtain ⟨ek, epl⟩ := opv
            generalize outP own xo rec xl xd = outv at *
            obtain ⟨out, rec2⟩ := outv
            simp only at cRA cXAll hob
            clear cXA
            go_wp2_with fail
            refine cRA.out.mono ?_
            rintro e w7 ⟨⟨v1, rvr2, rfl, hv1, hR', hrb1⟩, K1⟩
            have Bo7 := Bo6.stepR hR' hrb1 K1
            have P7 := K1.blk P6 (fun hs => by have := hrlt _ hs; omega)
            have p0 : w7.cell? ⟨wr.heap.size, 0, none⟩ = some (.slice xa xo.length xc) := P7.cell 0
            have p1 : w7.cell? ⟨wr.heap.size, 1, none⟩ = some (.bool xl) := P7.cell 1
            have p2 : w7.cell? ⟨wr.heap.size, 2, none⟩ = some (.bool xd) := P7.cell 2
            have hlt7 := P7.lt
            have hz7 := K1.size
            obtain ⟨W8, hW8⟩ : ∃ W8, w7.alloc (.cells #[.int .i64 (ek : Nat), .int .i64 epl] 72) = W8 := ⟨_, rfl⟩
            have hA8 : Below w7.heap.size w7 W8 := by rw [← hW8]; exact (Below.refl _ _).alloc (Nat.le_refl _) _
            have F8 : Blk W8 w7.heap.size 72 #[.int .i64 (ek : Nat), .int .i64 epl] := by rw [← hW8]; exact Blk.new _ _ _
            have p0 := (hA8.cell (p := ⟨wr.heap.size, 0, none⟩) hlt7).trans p0
            have p1 := (hA8.cell (p := ⟨wr.heap.size, 1, none⟩) hlt7).trans p1
            have p2 := (hA8.cell (p := ⟨wr.heap.size, 2, none⟩) hlt7).trans p2
            have Bo8 := Bo7.below hA8
            have cX8 := cXAll W8 rvr2 rec2 Bo8
            go_wp2_with fail
            refine cX8.out.mono ?_
            rintro e w9 ⟨⟨v2, er, rvx2, rfl, her, hv2, hX', hrb2⟩, K2⟩
            have Bo9 := Bo8.stepX hX' hrb2 K2
            have b9 := Bo9.b
            have hv19 := K2.owns (owns_below hv1 hA8) (fun q hq hs => by have h1 := hxlt q hs; have h2 := (hv1.lt q hq).1; omega)
            have F9 := K2.blk F8 (fun hs => by have := hxlt _ hs; omega)
            have f0 : w9.cell? ⟨w7.heap.size, 0, none⟩ = some (.int .i64 (ek : Nat)) := F9.cell 0
            have f1 : w9.cell? ⟨w7.heap.size, 1, none⟩ = some (.int .i64 epl) := F9.cell 1
            have nr : w9.cell? ⟨gr, 1, none⟩ = some rvr2 := Bo9.R.blk.cell 1
            have hfl := F9.lt
            have hgr9 := Bo9.R.blk.lt
            have PV1 := psl_of_owns hv19
            have PV2 := psl_of_owns hv2
            have PRX := psl_of_owns Bo9.X.hrv
            have PRR := psl_of_owns Bo9.R.hrv
            have HBo := hid Bo9
            have HB9 := hid b9
            have HER := hid her
            have HPV1 := hid PV1
            have HPV2 := hid PV2
            have HPRR := hid PRR
            clear hW8 hW6 p0 p1 p2 P6 P7 F8 F9 Bo6 Bo7 Bo8 hA6 hA8 cRA cXAll cX8 hv1 hv2 hv19 hR' hX' hrb1 hrb2 K1 K2 hBo b6 hxlt hrlt g0 g1 g2 hbl hPx hBx hCx hn60
            have key2 : ∀ w' w'' : World, (w'.cell? ⟨w7.heap.size, 0, none⟩ = some (.int .i64 (ek : Nat)) ∧ w'.cell? ⟨w7.heap.size, 1, none⟩ = some (.int .i64 epl) ∧ w'.cell? ⟨gr, 1, none⟩ = some rvr2 ∧ Below w9.heap.size w9 w') → Below w'.heap.size w' w'' → w''.cell? ⟨w7.heap.size, 0, none⟩ = some (.int .i64 (ek : Nat)) ∧ w''.cell? ⟨w7.heap.size, 1, none⟩ = some (.int .i64 epl) ∧ w''.cell? ⟨gr, 1, none⟩ = some rvr2 ∧ Below w9.heap.size w9 w'' := by
              intro w' w'' ⟨h0, h1, h2, h3⟩ hq
              exact ⟨(hq.cell (p := ⟨w7.heap.size, 0, none⟩) (Nat.lt_of_lt_of_le hfl h3.size)).trans h0, (hq.cell (p := ⟨w7.heap.size, 1, none⟩) (Nat.lt_of_lt_of_le hfl h3.size)).trans h1, (hq.cell (p := ⟨gr, 1, none⟩) (Nat.lt_of_lt_of_le hgr9 h3.size)).trans h2, h3.trans (hq.mono h3.size)⟩
            have dP : ∀ (v : Value) (w' : World), ErrIs w' v ek epl → (w'.cell? ⟨w7.heap.size, 0, none⟩ = some (.int .i64 (ek : Nat)) ∧ w'.cell? ⟨w7.heap.size, 1, none⟩ = some (.int .i64 epl) ∧ w'.cell? ⟨gr, 1, none⟩ = some rvr2 ∧ Below w9.heap.size w9 w') → Hid (Calls Tryz.prog 20 #[v, .agg #[.int .i64 (ek : Nat), .int .i64 epl]] w' fun e w'' => e = .returned (.bool true) ∧ w''.cell? ⟨w7.heap.size, 0, none⟩ = some (.int .i64 (ek : Nat)) ∧ w''.cell? ⟨w7.heap.size, 1, none⟩ = some (.int .i64 epl) ∧ w''.cell? ⟨gr, 1, none⟩ = some rvr2 ∧ Below w9.heap.size w9 w'') := by
              intro v w' hv hS
              refine hid ((placed_ok v ek epl w' (hg.below (HB9.out.trans (hS.2.2.2.mono HB9.out.size))) hv).mono ?_)
              rintro e w'' ⟨he, hq⟩
              exact ⟨he, key2 _ _ hS hq⟩
            have dE : ∀ (v v2 : Value) (xs : PL) (w' : World), xs.length ≤ 100000 → PSl w' v xs → PSl w' v2 xs → (w'.cell? ⟨w7.heap.size, 0, none⟩ = some (.int .i64 (ek : Nat)) ∧ w'.cell? ⟨w7.heap.size, 1, none⟩ = some (.int .i64 epl) ∧ w'.cell? ⟨gr, 1, none⟩ = some rvr2 ∧ Below w9.heap.size w9 w') → Hid (Calls Tryz.prog 25 #[v, v2] w' fun e w'' => e = .returned (.bool true) ∧ w''.cell? ⟨w7.heap.size, 0, none⟩ = some (.int .i64 (ek : Nat)) ∧ w''.cell? ⟨w7.heap.size, 1, none⟩ = some (.int .i64 epl) ∧ w''.cell? ⟨gr, 1, none⟩ = some rvr2 ∧ Below w9.heap.size w9 w'') := by
              intro v v2 xs w' hx h1 h2 hS
              refine hid ((eqPairs_true v v2 xs w' (by omega) h1 h2).mono ?_)
              rintro e w'' ⟨he, hq⟩
              exact ⟨he, key2 _ _ hS hq⟩
            have dRc : ∀ (w' : World), (w'.cell? ⟨w7.heap.size, 0, none⟩ = some (.int .i64 (ek : Nat)) ∧ w'.cell? ⟨w7.heap.size, 1, none⟩ = some (.int .i64 epl) ∧ w'.cell? ⟨gr, 1, none⟩ = some rvr2 ∧ Below w9.heap.size w9 w') → Hid (Calls Tryz.prog 32 #[.pointer (some ⟨gx, 0, none⟩)] w' fun e w'' => (∃ v3, e = .returned v3 ∧ PSl w'' v3 rec2) ∧ w''.cell? ⟨w7.heap.size, 0, none⟩ = some (.int .i64 (ek : Nat)) ∧ w''.cell? ⟨w7.heap.size, 1, none⟩ = some (.int .i64 epl) ∧ w''.cell? ⟨gr, 1, none⟩ = some rvr2 ∧ Below w9.heap.size w9 w'') := by
              intro w' hS
              refine hid ((nRecord_any gx ov rvx2 rec2 w' (PRX.below hS.2.2.2) (by omega) (HBo.out.X.blk.below hS.2.2.2)).mono ?_)
              rintro e w'' ⟨he, hq⟩
              exact ⟨⟨_, he.choose_spec.1, psl_of_owns he.choose_spec.2⟩, key2 _ _ hS hq⟩
            have dD : ∀ (w' : World), (w'.cell? ⟨w7.heap.size, 0, none⟩ = some (.int .i64 (ek : Nat)) ∧ w'.cell? ⟨w7.heap.size, 1, none⟩ = some (.int .i64 epl) ∧ w'.cell? ⟨gr, 1, none⟩ = some rvr2 ∧ Below w9.heap.size w9 w') → Hid (Calls Tryz.prog 33 #[.pointer (some ⟨gx, 0, none⟩)] w' fun e w'' => e = .returned (.int .i64 (digP rec2 : Nat)) ∧ w''.cell? ⟨w7.heap.size, 0, none⟩ = some (.int .i64 (ek : Nat)) ∧ w''.cell? ⟨w7.heap.size, 1, none⟩ = some (.int .i64 epl) ∧ w''.cell? ⟨gr, 1, none⟩ = some rvr2 ∧ Below w9.heap.size w9 w'') := by
              intro w' hS
              refine hid ((nDigests_any gx ov rvx2 rec2 w' (PRX.below hS.2.2.2) (by omega) (HBo.out.X.blk.below hS.2.2.2) (hT.below (HB9.out.trans (hS.2.2.2.mono HB9.out.size)) (Nat.le_refl _))).mono ?_)
              rintro e w'' ⟨he, hq⟩
              exact ⟨he, key2 _ _ hS hq⟩
            have dD2 : ∀ (w' : World), (w'.cell? ⟨w7.heap.size, 0, none⟩ = some (.int .i64 (ek : Nat)) ∧ w'.cell? ⟨w7.heap.size, 1, none⟩ = some (.int .i64 epl) ∧ w'.cell? ⟨gr, 1, none⟩ = some rvr2 ∧ Below w9.heap.size w9 w') → Hid (Calls Tryz.prog 34 #[.pointer (some ⟨gr, 0, none⟩)] w' fun e w'' => e = .returned (.int .i64 (digP rec2 : Nat)) ∧ w''.cell? ⟨w7.heap.size, 0, none⟩ = some (.int .i64 (ek : Nat)) ∧ w''.cell? ⟨w7.heap.size, 1, none⟩ = some (.int .i64 epl) ∧ w''.cell? ⟨gr, 1, none⟩ = some rvr2 ∧ Below w9.heap.size w9 w'') := by
              intro w' hS
              refine hid ((rDigests_any gr mv rvr2 rec2 w' (PRR.below hS.2.2.2) (by omega) (HBo.out.R.blk.below hS.2.2.2)).mono ?_)
              rintro e w'' ⟨he, hq⟩
              exact ⟨he, key2 _ _ hS hq⟩
            have her0 : ∀ w', Below w9.heap.size w9 w' → ErrIs w' er ek epl := fun w' hq => HER.out.below hq
            have PV1a : ∀ w', Below w9.heap.size w9 w' → PSl w' v1 out := fun w' hq => HPV1.out.below hq
            have PV2a : ∀ w', Below w9.heap.size w9 w' → PSl w' v2 out := fun w' hq => HPV2.out.below hq
            have PRa : ∀ w', Below w9.heap.size w9 w' → PSl w' rvr2 rec2 := fun w' hq => HPRR.out.below hq
            have hol9 : out.length ≤ 100000 := by omega
            have hrl9 : rec2.length ≤ 100000 := by omega
            have hd : Below w9.heap.size w9 w9.drew := (Below.refl _ _).drew
            have hcd : w9.drew.cell? ⟨w7.heap.size, 0, none⟩ = some (.int .i64 (ek : Nat)) ∧ w9.drew.cell? ⟨w7.heap.size, 1, none⟩ = some (.int .i64 epl) ∧ w9.drew.cell? ⟨gr, 1, none⟩ = some rvr2 ∧ Below w9.heap.size w9 w9.drew := ⟨f0, f1, nr, hd⟩
            generalize digP rec2 = dg at *
            clear key2 PV1 PV2 PRX PRR her
            go_wp2_with fail
            go_region_held3 (fun w' => w'.cell? ⟨w7.heap.size, 0, none⟩ = some (.int .i64 (ek : Nat)) ∧ w'.cell? ⟨w7.heap.size, 1, none⟩ = some (.int .i64 epl) ∧ w'.cell? ⟨gr, 1, none⟩ = some rvr2 ∧ Below w9.heap.size w9 w')
              (first | exact hcd | assumption | exact ⟨by assumption, by assumption, by assumption, by assumption⟩)
              (first
                | (go_at_call 20; refine (dP er _ ?_ ?_).out.mono ?_; (apply her0; first | exact hd | assumption); (first | exact hcd | assumption | exact ⟨by assumption, by assumption, by assumption, by assumption⟩); rintro e wA ⟨rfl, i0, i1, i2, i3⟩)
                | (go_at_call 32; refine (dRc _ ?_).out.mono ?_; (first | exact hcd | assumption | exact ⟨by assumption, by assumption, by assumption, by assumption⟩); rintro e wC ⟨⟨v3, rfl, hv3⟩, k0, k1, k2, k3⟩)
                | (go_at_call 33; refine (dD _ ?_).out.mono ?_; (first | exact hcd | assumption | exact ⟨by assumption, by assumption, by assumption, by assumption⟩); rintro e wE ⟨rfl, m0, m1, m2, m3⟩)
                | (go_at_call 34; refine (dD2 _ ?_).out.mono ?_; (first | exact hcd | assumption | exact ⟨by assumption, by assumption, by assumption, by assumption⟩); rintro e wF ⟨rfl, n0, n1, n2, n3⟩)
                | (go_at_call 25; refine (dE _ _ out _ hol9 ?_ ?_ ?_).out.mono ?_; (apply PV1a; first | exact hd | assumption); (apply PV2a; first | exact hd | assumption); (first | exact hcd | assumption | exact ⟨by assumption, by assumption, by assumption, by assumption⟩); rintro e wB ⟨rfl, j0, j1, j2, j3⟩)
                | (go_at_call 25; refine (dE _ _ rec2 _ hrl9 ?_ ?_ ?_).out.mono ?_; (assumption); (apply PRa; first | exact hd | assumption); (first | exact hcd | assumption | exact ⟨by assumption, by assumption, by assumption, by assumption⟩); rintro e wB ⟨rfl, l0, l1, l2, l3⟩))
            all_goals
              go_wp2_with fail
              refine ⟨⟨k + 1, rec2, rvx2, rvr2, by omega, by go_num, by omega, hob.2.2, HBo.out.below ?_⟩, by simp [intOf]; omega⟩
              assumption
          · obtain rfl : k = L.length := by omega
            have hol : own.length ≤ 9223372036854775807 := by omega
            have hrl2 : rec.length ≤ 9223372036854775807 := by omega
            have HBo := hid hBo
            have cRO := hid (rOwn_any gr mv rvr key wr hBo.R.blk hkey own hBo.R.hov hol)
            have cXO := fun W (hq : Below wr.heap.size wr W) => hid (nOwn_any gx ov rvx own key W (HBo.out.X.blk.below hq) hkey (hT.below (hb.trans (hq.mono hB)) (Nat.le_refl _)) (HBo.out.X.hov.below hq) hol)
            have cRV := fun W (hq : Below wr.heap.size wr W) => hid (rValue_any gr mv rvr key W (HBo.out.R.blk.below hq) hkey rec (psl_of_owns (owns_below HBo.out.R.hrv hq)) hrl2)
            have cXV := fun W (hq : Below wr.heap.size wr W) => hid (nValue_any gx ov rvx rec key W (HBo.out.X.blk.below hq) hkey (hT.below (hb.trans (hq.mono hB)) (Nat.le_refl _)) (psl_of_owns (owns_below HBo.out.X.hrv hq)) hrl2)
            have cB := fun W k (hq : Below wr.heap.size wr W) => hid (bare_ok (errV 31 k) k W (hg.below (hb.trans (hq.mono hB))) (ErrIs.errV W k))
            generalize ofP own key = qo at *
            obtain ⟨o1, o2⟩ := qo
            generalize ofP rec key = qv at *
            obtain ⟨u1, u2⟩ := qv
            simp only at cRO cXO cRV cXV
            have hlt3 : ¬ ((L.length : Int) < (L.length : Int)) := by omega
            clear hBo hlt hk
            go_wp2_with fail
            refine cRO.out.mono ?_
            rintro e w1 ⟨rfl, hb1⟩
            go_wp2_with fail
            refine (cXO _ hb1).out.mono ?_
            rintro e w2 ⟨rfl, hb2⟩
            have b2 := hb1.trans (hb2.mono hb1.size)
            go_wp2_with fail
            refine (cRV _ b2).out.mono ?_
            rintro e w3 ⟨rfl, hb3⟩
            have b3 := b2.trans (hb3.mono b2.size)
            go_wp2_with fail
            refine (cXV _ b3).out.mono ?_
            rintro e w4 ⟨rfl, hb4⟩
            have b4 := b3.trans (hb4.mono b3.size)
            go_wp2_with fail
            refine (cB _ _ b4).out.mono ?_
            rintro e w5 ⟨rfl, hb5⟩
            have b5 := b4.trans (hb5.mono b4.size)
            go_wp2_with fail
            refine (cB _ _ b5).out.mono ?_
            rintro e w6 ⟨rfl, hb6⟩
            have b6 := b5.trans (hb6.mono b5.size)
            go_wp2
            go_ret
            exact ⟨rfl, hb.trans (b6.mono hB)⟩
      · obtain rfl := hr1 hnk
        obtain rfl := hx1 hnk
        have hnk2 : ((nk : Int) == 0) = false := by rw [beq_eq_false_iff_ne]; omega
        clear hr0 hr1 hx0 hx1 her
        have cis := cis nk npl
        rw [decide_eq_false hnk] at cis
        go_wp2_with fail
        refine (cis _).out.mono ?_
        rintro e w4 ⟨rfl, hb4⟩
        go_wp2
        go_ret
        exact ⟨rfl, b3.trans (hb4.mono b3.size)⟩
end
theorem negoPlays_row (mv : Value) (own : PL) (lv : Value) (L : List RD) (key : ByteArray) (w : World) (h : PSl w mv own) (hbd : PBd own) (hcap : ∀ a c, mv = .slice a own.length c → own.length ≤ c) (hLs : RdSl w lv L) (hkey : key.size ≤ maxLen)
    (hL : laidMetH Tryz.prog Rows.negoPlaysRow.laid w) (hsh : w.ShapedOpen Tryz.prog) :
    Calls Tryz.prog 5 #[mv, lv, .string key] w fun e w' => e = .returned (.bool true) ∧ Below w.heap.size w w' := by
  have := negoPlays_law mv lv own L key.data.toList w h hbd hcap hLs (by unfold maxLen at hkey; simpa using hkey) (cardBase.etype_of_laid (by simp [Rows.negoPlaysRow]) hL)
    (cardBase.tab_of_laid (n := 256) (t := 262) (e := 5) (L := Rows.negoPlaysRow.laid) (by kernel_rfl) asName (by kernel_rfl) Tryz.underlying262 Tryz.underlying5 (by kernel_rfl) (by kernel_rfl) hL)
    ⟨ifaceAt_of_laid (L := Rows.negoPlaysRow.laid) (name := "strconv.ErrSyntax") (nm := "*errors.errorString") (d := .ptr (.agg [.lit (.string [105, 110, 118, 97, 108, 105, 100, 32, 115, 121, 110, 116, 97, 120])])) (by kernel_rfl) (by kernel_rfl) (by kernel_rfl) Tryz.underlying27 hL, ifaceAt_of_laid (L := Rows.negoPlaysRow.laid) (name := "strconv.ErrRange") (nm := "*errors.errorString") (d := .ptr (.agg [.lit (.string [118, 97, 108, 117, 101, 32, 111, 117, 116, 32, 111, 102, 32, 114, 97, 110, 103, 101])])) (by kernel_rfl) (by kernel_rfl) (by kernel_rfl) Tryz.underlying27 hL⟩
    (cardBase.tab_of_laid (n := 20) (t := 329) (e := 122) (L := Rows.negoPlaysRow.laid) (by kernel_rfl) ptName (by kernel_rfl) Tryz.underlying329 Tryz.underlying122 (by kernel_rfl) (by kernel_rfl) hL)
    (ml_of_shaped hsh)
  rwa [bs_data] at this
end Go.Proofs.YtfeenkofnbefaaaGreatDoor
