/- What comes of an offer: by the document. -/
import Derived.Test.YtfeenkofnbefaaaGreatDoorResult
import Derived.Test.YtfeenkofnbefaaaGreatDoorShelfL
set_option linter.unusedSectionVars false
set_option linter.unusedSimpArgs false
set_option linter.unusedVariables false
namespace Go.Proofs.YtfeenkofnbefaaaGreatDoor
open Go Go.RowKit
set_option linter.unusedVariables false
set_option linter.unusedSectionVars false
set_option linter.unusedSimpArgs false
set_option maxRecDepth 100000
/-- the longest text that is looked for at once: some number -/
def ML (w : World) : Prop := ∃ m, w.cell? ⟨3, 0, none⟩ = some (.int .i64 m)
theorem ML.below {w w' : World} (h : ML w) (hb : Below w.heap.size w w') : ML w' := by
  obtain ⟨m, hm⟩ := h
  exact ⟨m, (hb.cell (p := ⟨3, 0, none⟩) (block_lt_of_cell hm)).trans hm⟩
theorem ml_of_shaped {w : World} (h : w.ShapedOpen Tryz.prog) : ML w := Tryz.laysM144.s1_3 w h
theorem contains_any (s sub : List UInt8) (w : World) (hs : s.length ≤ 1000000) (hm : ML w) :
    Calls Tryz.prog 98 #[.string (bs s), .string (bs sub)] w fun e w' => e = .returned (.bool (Lib.contains s sub)) ∧ w = w' := by
  obtain ⟨m, hm⟩ := hm
  refine (Tryz.strings_Contains (bs s) (bs sub) m w (by rw [bs_size]; omega) hm).mono ?_
  rintro e w' ⟨rfl, rfl⟩
  exact ⟨rfl, rfl⟩
section
variable (name offer own : List UInt8) (w : World) (h1 : offer.length ≤ 100000) (h2 : own.length ≤ 100000)
include h1 h2
set_option maxHeartbeats 8000000 in
theorem rresult_any (hP : PT w) (hM : ML w) : Calls Tryz.prog 66 #[.string (bs name), .string (bs offer), .string (bs own)] w fun e w' =>
    e = .returned (.tuple #[.string (bs (resP name offer own).1), .int .i64 ((resP name offer own).2 : Nat)]) ∧ Below w.heap.size w w' := by
  have cf1 := hid (rfits_any name offer w h1)
  have cf2 := fun w1 => hid (rfits_any name own w1 h2)
  have hbad1 := hid (fun h => @resP_bad1 name offer own h)
  have hbad2 := hid (fun ha h => @resP_bad2 name offer own ha h)
  have hgood := hid (fun ha h => @resP_good name offer own ha h)
  have co := fun w1 => hid (keyOf_any name w1)
  have cn1 := fun w1 => hid (rnumeral_any offer w1 (by omega))
  have cn2 := fun w1 => hid (rnumeral_any own w1 (by omega))
  have cs := fun w1 => hid (split1_any 44 offer w1 (by omega))
  have cc := fun s sub w1 hs (hb : Below w.heap.size w w1) => hid (contains_any s sub w1 hs (hM.below hb))
  have ci := fun n h0 h3 w1 (hb : Below w.heap.size w w1) => hid (itoa_any n h0 h3 w1 (hP.below hb (Nat.le_refl _)))
  generalize resP name offer own = R at *
  generalize hF1 : fitsP name offer = F1 at *
  generalize hF2 : fitsP name own = F2 at *
  clear hF1 hF2 hP hM
  have hb0 := Below.refl w.heap.size w
  go_enter Tryz.func66, Tryz.ntmps66
  go_wp2_with fail
  refine cf1.out.mono ?_
  rintro e w1 ⟨rfl, hb1⟩
  by_cases hf1 : F1 = 0
  · subst hf1
    go_wp2_with fail
    refine (cf2 _).out.mono ?_
    rintro e w2 ⟨rfl, hb2⟩
    have hb2 := hb1.trans (hb2.mono hb1.size)
    by_cases hf2 : F2 = 0
    · subst hf2
      obtain ⟨k, hfk, hkm, hk1, hk2, hR⟩ := hgood.out (by first | exact rfl | trivial) (by first | exact rfl | trivial)
      clear hgood hbad1 hbad2
      rw [hfk] at co
      simp only [keyVal, keyErr, KR.cells] at co
      go_wp2_with fail
      refine (co _).out.mono ?_
      rintro e w3 ⟨rfl, hb3⟩
      have hb3 := hb2.trans (hb3.mono hb2.size)
      have hK3 := Blk.new w3 161 #[.string (bs k.name), .int .i64 (dnum k.lk : Int), .int .i64 (dnum k.ll : Int), .int .i64 (dnum k.lh : Int), .string (bs k.dv), .bool (k.no == [78]), .bool (k.lo == [76])]
      have hb4 := hb3.alloc hb3.size (.cells #[.string (bs k.name), .int .i64 (dnum k.lk : Int), .int .i64 (dnum k.ll : Int), .int .i64 (dnum k.lh : Int), .string (bs k.dv), .bool (k.no == [78]), .bool (k.lo == [76])] 161)
      have hkc : (w3.alloc (.cells #[.string (bs k.name), .int .i64 (dnum k.lk : Int), .int .i64 (dnum k.ll : Int), .int .i64 (dnum k.lh : Int), .string (bs k.dv), .bool (k.no == [78]), .bool (k.lo == [76])] 161)).cell? ⟨w3.heap.size, 1, none⟩ = some (.int .i64 (dnum k.lk : Int)) := (hK3.cell 1).trans rfl
      clear hK3
      have hk7 := kinds_seven k hkm
      have hRk := hR
      unfold resK at hRk
      have Hy1 := hid (fun h => @fits_yn k offer h hk1)
      have Hy2 := hid (fun h => @fits_yn k own h hk2)
      have Hm1 := hid (fun h => @fits_num k offer h hk1)
      have Hm2 := hid (fun h => @fits_num k own h hk2)
      change R = if k.kind = 1 then _ else _ at hRk
      have HRK := hid hRk
      have hsl : (⟨#[47]⟩ : ByteArray) = bs [47] := rfl
      have hcm : (⟨#[44]⟩ : ByteArray) = bs [44] := rfl
      clear hR hRk hk1 hk2 co cf1 cf2 hb1 hb2 hb3
      have hkk : dnum k.lk = k.kind := rfl
      rw [hkk] at hkc hk7 hb4 ⊢
      generalize k.kind = K at *
      rcases hk7 with rfl | rfl | rfl | rfl | rfl | rfl | rfl
      · rcases Hy1.out (.inl rfl) with rfl | rfl <;> rcases Hy2.out (.inl rfl) with rfl | rfl
        all_goals
          go_wp2
          go_ret2
          exact ⟨by rw [HRK.out]; rfl, hb4⟩
      · rcases Hy1.out (.inr rfl) with rfl | rfl <;> rcases Hy2.out (.inr rfl) with rfl | rfl
        all_goals
          go_wp2
          go_ret2
          exact ⟨by rw [HRK.out]; rfl, hb4⟩
      · obtain ⟨a, ha, hao, hab⟩ := Hm1.out (.inl rfl)
        obtain ⟨b, hb, hbo, hbb⟩ := Hm2.out (.inl rfl)
        rw [ha] at cn1
        rw [hb] at cn2
        simp only [numI] at cn1 cn2
        go_wp2_with fail
        refine (cn1 _).out.mono ?_
        rintro e w5 ⟨rfl, hb5⟩
        have hb5 := hb4.trans (hb5.mono hb4.size)
        go_wp2_with fail
        refine (cn2 _).out.mono ?_
        rintro e w6 ⟨rfl, hb6⟩
        have hb6 := hb5.trans (hb6.mono hb5.size)
        go_wp2_with fail
        refine (ci _ (by omega) (by omega) _ hb6).out.mono ?_
        rintro e w7 ⟨rfl, hb7⟩
        go_wp2
        go_ret2
        refine ⟨?_, hb6.trans (hb7.mono hb6.size)⟩
        rw [HRK.out, hao, hbo]
        first | done | rfl | (simp; done) | (simp; rfl)
      · obtain ⟨a, ha, hao, hab⟩ := Hm1.out (.inr rfl)
        obtain ⟨b, hb, hbo, hbb⟩ := Hm2.out (.inr rfl)
        rw [ha] at cn1
        rw [hb] at cn2
        simp only [numI] at cn1 cn2
        go_wp2_with fail
        refine (cn1 _).out.mono ?_
        rintro e w5 ⟨rfl, hb5⟩
        have hb5 := hb4.trans (hb5.mono hb4.size)
        go_wp2_with fail
        refine (cn2 _).out.mono ?_
        rintro e w6 ⟨rfl, hb6⟩
        have hb6 := hb5.trans (hb6.mono hb5.size)
        go_wp2_with fail
        refine (ci _ (by omega) (by omega) _ hb6).out.mono ?_
        rintro e w7 ⟨rfl, hb7⟩
        go_wp2
        go_ret2
        refine ⟨?_, hb6.trans (hb7.mono hb6.size)⟩
        rw [HRK.out, hao, hbo]
        first | done | rfl | (simp; done) | (simp; rfl)
      · have hr := HRK.out
        simp at hr
        have hn1 : (splitL 44 offer).length ≤ 1000000 := by rw [splitL_length]; have := List.count_le_length (a := (44 : UInt8)) (l := offer); omega
        have hsz := fun x hx => splitL_mem 44 offer x hx
        have hfr := fun x hx => split_free 44 offer.length offer (Nat.le_refl _) x hx
        have hcw := fun x hx => contains_word own x hx
        have HAC := hid (fun W => arr_cell W (splitL 44 offer))
        have HSZ := hid hsz; have HFR := hid hfr; have HCW := hid hcw
        clear HRK hsz hfr hcw
        generalize splitL 44 offer = L at *
        generalize splitL 44 own = H at *
        go_wp2_with fail
        refine (cs _).out.mono ?_
        rintro e w8 ⟨rfl, rfl⟩
        have hb9 := hb4.alloc hb4.size (.cells (sArr L) 9)
        have had := HAC.out (w3.alloc (.cells #[.string (bs k.name), .int .i64 ((5 : Nat) : Int), .int .i64 (dnum k.ll : Int), .int .i64 (dnum k.lh : Int), .string (bs k.dv), .bool (k.no == [78]), .bool (k.lo == [76])] 161))
        have hs3 : (w3.alloc (.cells #[.string (bs k.name), .int .i64 ((5 : Nat) : Int), .int .i64 (dnum k.ll : Int), .int .i64 (dnum k.lh : Int), .string (bs k.dv), .bool (k.no == [78]), .bool (k.lo == [76])] 161)).heap.size = w3.heap.size + 1 := by simp
        simp only [hs3] at had
        have HAD := hid had
        clear had hs3
        have HR := hid hr
        clear hr HAC
        have HB9 := hid hb9; clear hb9
        generalize hW9 : (w3.alloc (.cells #[.string (bs k.name), .int .i64 ((5 : Nat) : Int), .int .i64 (dnum k.ll : Int), .int .i64 (dnum k.lh : Int), .string (bs k.dv), .bool (k.no == [78]), .bool (k.lo == [76])] 161)).alloc (.cells (sArr L) 9) = W9 at *
        clear hW9
        have hb9 := HB9.out
        go_wp2
        go_loopw [67] (fun i wr => RF H L W9 i wr) (fun i _ => L.length - (intOf i).toNat)
        case atStart => exact ⟨0, by omega, rfl, rfl, rfl⟩
        case round =>
          obtain ⟨q, hq, rfl, hst, rfl⟩ := hrel
          by_cases hlt : q < L.length
          · obtain ⟨x, hx⟩ : ∃ x, L[q]? = some x := ⟨L[q], List.getElem?_eq_getElem hlt⟩
            have hxm : x ∈ L := List.mem_of_getElem? hx
            have hcx := HAD.out q x hx
            have hxl := HSZ.out x hxm
            have hct := HCW.out x (HFR.out x hxm)
            rw [firstIn_step H L q x hx, ← hct] at hst
            have HST := hid hst
            clear hst hx hxm hct
            go_wp2_with fail
            refine (cc _ _ _ ?_ HB9.out).out.mono ?_
            · simp; omega
            rintro e w10 ⟨rfl, rfl⟩
            cases hcon : Lib.contains (44 :: (own ++ [44])) (44 :: (x ++ [44])) with
            | true =>
              have hrr : R = (x, 0) := by rw [HR.out, HST.out, hcon]; rfl
              clear hcon
              go_wp2
              go_ret2
              exact ⟨by rw [hrr]; rfl, HB9.out⟩
            | false =>
              have hst := HST.out
              rw [hcon] at hst
              have HS2 := hid (show firstIn H L = firstIn H (L.drop (q + 1)) by rw [hst]; rfl)
              clear hcon hst HST
              go_wp2
              go_roundw
              case rel => exact ⟨q + 1, by omega, by go_num, HS2.out, rfl⟩
              case measure => simp [intOf]; omega
          · obtain rfl : q = L.length := by omega
            have hrr : R = ([], 8) := by rw [HR.out, hst, firstIn_end _ _ _ (Nat.le_refl _)]
            clear hst
            go_wp2
            go_ret2
            exact ⟨by rw [hrr]; rfl, HB9.out⟩
      · go_wp2
        go_ret2
        exact ⟨by rw [HRK.out]; rfl, hb4⟩
      · go_wp2
        go_ret2
        exact ⟨by rw [HRK.out]; rfl, hb4⟩
    · have hRb := hbad2.out (by first | exact rfl | trivial) hf2
      go_wp2
      go_ret2
      exact ⟨by rw [hRb]; rfl, hb2⟩
  · have hRb := hbad1.out hf1
    go_wp2
    go_ret2
    exact ⟨by rw [hRb]; rfl, hb1⟩
end
end Go.Proofs.YtfeenkofnbefaaaGreatDoor
