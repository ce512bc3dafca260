/- What comes of an offer: by the program. -/
import Derived.Test.YtbimlijhgeajjaaGreatDoorFits
import Derived.Test.YtbimlijhgeajjaaGreatDoorYes
import Derived.Test.YtbimlijhgeajjaaGreatDoorHeadRow
import Derived.Test.YtbimlijhgeajjaaGreatDoorNego
import Derived.Test.YtbimlijhgeajjaaGreatDoorNegoR
import Derived.Test.YtbimlijhgeajjaaGreatDoorPlan
import Derived.Test.YtbimlijhgeajjaaGreatDoorRange
set_option linter.unusedSectionVars false
set_option linter.unusedSimpArgs false
set_option linter.unusedVariables false
namespace Go.Proofs.YtbimlijhgeajjaaGreatDoor
open Go Go.RowKit
set_option linter.unusedVariables false
set_option linter.unusedSectionVars false
set_option linter.unusedSimpArgs false
set_option maxRecDepth 100000
theorem idxS0 (x y : Value) (W : World) : (Instr.index 242 (.agg #[x, y]) (.int .i64 0)).run Tryz.prog W = .ok x W := by rfl
theorem idxS1 (x y : Value) (W : World) : (Instr.index 242 (.agg #[x, y]) (.int .i64 1)).run Tryz.prog W = .ok y W := by rfl
theorem resP_bad1 {name offer own : List UInt8} (h : fitsP name offer ≠ 0) : resP name offer own = ([], fitsP name offer) := by
  unfold fitsP at h ⊢
  unfold resP
  cases hf : findK keyRows name with
  | none => rfl
  | some k =>
    rw [hf] at h
    simp only at h ⊢
    first | done | rw [if_pos h]
theorem resP_bad2 {name offer own : List UInt8} (h1 : fitsP name offer = 0) (h : fitsP name own ≠ 0) : resP name offer own = ([], fitsP name own) := by
  unfold fitsP at h h1 ⊢
  unfold resP
  cases hf : findK keyRows name with
  | none => (rw [hf] at h1) <;> cases h1
  | some k => 
    rw [hf] at h h1
    simp only at h h1 ⊢
    rw [if_neg (by omega)]
    first | done | rw [if_pos h]
theorem resP_good {name offer own : List UInt8} (h1 : fitsP name offer = 0) (h2 : fitsP name own = 0) : ∃ k, findK keyRows name = some k ∧ k ∈ keyRows ∧ fitsK k offer = 0 ∧ fitsK k own = 0 ∧ resP name offer own = resK k offer own := by
  unfold fitsP at h1 h2
  unfold resP
  cases hf : findK keyRows name with
  | none => rw [hf] at h1; cases h1
  | some k =>
    rw [hf] at h1 h2
    simp only at h1 h2
    refine ⟨k, rfl, List.mem_of_find?_eq_some hf, h1, h2, ?_⟩
    simp only
    rw [if_neg (by omega), if_neg (by omega)]
theorem fits_yn {k : KR} {v : List UInt8} (hk : k.kind = 1 ∨ k.kind = 2) (h : fitsK k v = 0) : v = yesL ∨ v = noL := by
  unfold fitsK at h
  rw [if_pos hk] at h
  by_cases hv : v = yesL ∨ v = noL
  · exact hv
  · rw [if_neg hv] at h; cases h
theorem fits_num {k : KR} {v : List UInt8} (hk : k.kind = 3 ∨ k.kind = 4) (h : fitsK k v = 0) : ∃ a, numL v = some a ∧ numO v = a ∧ a ≤ 1099511627775 := by
  unfold fitsK at h
  rw [if_neg (by omega), if_pos (by omega)] at h
  unfold numeP at h
  cases hn : numL v with
  | none => rw [hn] at h; cases h
  | some a => exact ⟨a, rfl, by unfold numO; rw [hn]; rfl, numL_le v a hn⟩
theorem fits_list {k : KR} {v : List UInt8} (hk : k.kind = 5) (h : fitsK k v = 0) : listP v = (splitL 44 v, 0) := by
  unfold fitsK at h
  rw [if_neg (by omega), if_neg (by omega), if_pos hk] at h
  unfold listP at h ⊢
  split
  · rfl
  · rename_i hq; rw [if_neg hq] at h; cases h
def RF (has l : List (List UInt8)) (W : World) (i : Value) (wr : World) : Prop :=
  ∃ k : Nat, k ≤ l.length ∧ i = .int .i64 (k : Nat) ∧ firstIn has l = firstIn has (l.drop k) ∧ wr = W
def RFj (has : List (List UInt8)) (x : List UInt8) (W : World) (j : Value) (wr : World) : Prop :=
  ∃ m : Nat, m ≤ has.length ∧ j = .int .i64 (m : Nat) ∧ (∀ y ∈ has.take m, y ≠ x) ∧ wr = W
theorem sl_str {W : World} {v : Value} {l : List (List UInt8)} (h : Sl W v 1 l.length (strCells l)) : ∃ a c, v = .slice a l.length c ∧ (l.length = 0 ∨ ∃ b o, a = some ⟨b, o, none⟩ ∧ ∀ k x, l[k]? = some x → W.cell? ⟨b, o + k, none⟩ = some (.string (bs x))) := by
  obtain ⟨a, c, rfl, hl, hc⟩ := h
  refine ⟨a, c, rfl, ?_⟩
  rcases hc with hc | ⟨b, o, rfl, hc⟩
  · exact .inl hc
  · exact .inr ⟨b, o, rfl, fun k x hx => hc k _ (by simp [strCells, hx])⟩
section
variable (name offer own : List UInt8) (w : World) (h1 : offer.length ≤ 100000) (h2 : own.length ≤ 100000)
include h1 h2
set_option maxHeartbeats 8000000 in
theorem result_any (hT : AS w) (hP : PT w) (hev : EV w) : Calls Tryz.prog 91 #[.string (bs name), .string (bs offer), .string (bs own)] w fun e w' =>
    e = .returned (.tuple #[.string (bs (resP name offer own).1), errV 32 (resP name offer own).2]) ∧ Below w.heap.size w w' := by
  have cf1 := hid (fits_any name offer w h1 hT hev)
  have cf2 := fun w1 (hb : Below w.heap.size w w1) => hid (fits_any name own w1 h2 (hT.below hb (Nat.le_refl _)) (hev.below hb))
  have hbad1 := hid (fun h => @resP_bad1 name offer own h)
  have hbad2 := hid (fun ha h => @resP_bad2 name offer own ha h)
  have hgood := hid (fun ha h => @resP_good name offer own ha h)
  have co := fun w1 (hb : Below w.heap.size w w1) => hid (of_any name w1 (hT.below hb (Nat.le_refl _)))
  have cn1 := fun w1 (hb : Below w.heap.size w w1) => hid (knumber_any offer w1 (by omega) (hev.below hb))
  have cn2 := fun w1 (hb : Below w.heap.size w w1) => hid (knumber_any own w1 (by omega) (hev.below hb))
  have cl1 := fun w1 => hid (list_any offer w1 h1)
  have cl2 := fun w1 => hid (list_any own w1 h2)
  have cy := fun b w1 => hid (yes_any b w1)
  have ci := fun n h0 h3 w1 (hb : Below w.heap.size w w1) => hid (itoa_any n h0 h3 w1 (hP.below hb (Nat.le_refl _)))
  unfold OfPost at co
  unfold NumPost at cn1 cn2
  unfold ListPost at cl1 cl2
  generalize resP name offer own = R at *
  generalize hF1 : fitsP name offer = F1 at *
  generalize hF2 : fitsP name own = F2 at *
  clear hF1 hF2 hT hP hev
  have hi0 := idxS0
  have hi1 := idxS1
  have hb0 := Below.refl w.heap.size w
  go_enter Tryz.func91, Tryz.ntmps91
  go_wp2
  refine wp_loop_rounds 3 ?_
  rw [rounds_succ]
  by_cases hf1 : F1 = 0
  · subst hf1
    rw [errV_zero] at cf1
    go_wp2_with fail
    refine cf1.out.mono ?_
    rintro e w1 ⟨rfl, hb1⟩
    go_wp2
    rw [rounds_succ]
    by_cases hf2 : F2 = 0
    · subst hf2
      obtain ⟨k, hfk, hkm, hk1, hk2, hR⟩ := hgood.out (by first | exact rfl | trivial) (by first | exact rfl | trivial)
      clear hgood hbad1 hbad2
      rw [hfk] at co
      simp only [keyVal, keyErr, KR.cells, errV_zero] at co
      have cf2 := cf2 _ hb1
      rw [errV_zero] at cf2
      go_wp2_with fail
      refine cf2.out.mono ?_
      rintro e w2 ⟨rfl, hb2⟩
      have hb2 := hb1.trans (hb2.mono hb1.size)
      go_wp2
      rw [rounds_succ]
      go_wp2_with fail
      refine (co _ hb2).out.mono ?_
      rintro e w3 ⟨rfl, hb3⟩
      have hb3 := hb2.trans (hb3.mono hb2.size)
      have hK3 := Blk.new w3 125 #[.string (bs k.name), .int .i64 (dnum k.lk : Int), .int .i64 (dnum k.ll : Int), .int .i64 (dnum k.lh : Int), .string (bs k.dv), .bool (k.no == [78]), .bool (k.lo == [76])]
      have hb4 := hb3.alloc hb3.size (.cells #[.string (bs k.name), .int .i64 (dnum k.lk : Int), .int .i64 (dnum k.ll : Int), .int .i64 (dnum k.lh : Int), .string (bs k.dv), .bool (k.no == [78]), .bool (k.lo == [76])] 125)
      go_wp2_with fail
      generalize w3.alloc (.cells #[.string (bs k.name), .int .i64 (dnum k.lk : Int), .int .i64 (dnum k.ll : Int), .int .i64 (dnum k.lh : Int), .string (bs k.dv), .bool (k.no == [78]), .bool (k.lo == [76])] 125) = w4 at *
      refine (cn1 _ hb4).out.mono ?_
      rintro e w5 ⟨n1, rfl, hn1, hb5⟩
      have hK5 := hK3.below hb5
      have hb5 := hb4.trans (hb5.mono hb4.size)
      go_wp2_with fail
      refine (cn2 _ hb5).out.mono ?_
      rintro e w6 ⟨n2, rfl, hn2, hb6⟩
      have hK6 := hK5.below hb6
      have hb6 := hb5.trans (hb6.mono hb5.size)
      clear hK3 hK5 co cn1 cn2 cf1 cf2 hb1 hb2 hb3 hb4 hb5
      have hkc : w6.cell? ⟨w3.heap.size, 1, none⟩ = some (.int .i64 (dnum k.lk : Int)) := (hK6.cell 1).trans rfl
      clear hK6
      have hk7 := kinds_seven k hkm
      have HN1 := hid hn1; have HN2 := hid hn2
      clear hn1 hn2 hi0 hi1
      have hRk := hR
      unfold resK at hRk
      have Hy1 := hid (fun h => @fits_yn k offer h hk1)
      have Hy2 := hid (fun h => @fits_yn k own h hk2)
      have Hm1 := hid (fun h => @fits_num k offer h hk1)
      have Hm2 := hid (fun h => @fits_num k own h hk2)
      have Hl1 := hid (fun h => @fits_list k offer h hk1)
      have Hl2 := hid (fun h => @fits_list k own h hk2)
      change R = if k.kind = 1 then _ else _ at hRk
      have HRK := hid hRk
      clear hR hRk hk1 hk2
      generalize w3.heap.size = g at *
      have hkk : dnum k.lk = k.kind := rfl
      rw [hkk] at hkc hk7
      generalize k.kind = K at *
      rcases hk7 with rfl | rfl | rfl | rfl | rfl | rfl | rfl
      · rcases Hy1.out (.inl rfl) with rfl | rfl <;> rcases Hy2.out (.inl rfl) with rfl | rfl
        all_goals
          go_wp2_with fail
          refine (cy _ _).out.mono ?_
          rintro e w7 ⟨rfl, hb7⟩
          go_wp2
          go_ret2
          exact ⟨by rw [HRK.out]; rfl, hb6.trans (hb7.mono hb6.size)⟩
      · rcases Hy1.out (.inr rfl) with rfl | rfl <;> rcases Hy2.out (.inr rfl) with rfl | rfl
        all_goals
          go_wp2_with fail
          refine (cy _ _).out.mono ?_
          rintro e w7 ⟨rfl, hb7⟩
          go_wp2
          go_ret2
          exact ⟨by rw [HRK.out]; rfl, hb6.trans (hb7.mono hb6.size)⟩
      · obtain ⟨a, ha, hao, hab⟩ := Hm1.out (.inl rfl)
        obtain ⟨b, hb, hbo, hbb⟩ := Hm2.out (.inl rfl)
        have e1 := HN1.out a ha
        have e2 := HN2.out b hb
        subst e1 e2
        go_wp2_with fail
        refine (ci _ (by omega) (by omega) _ hb6).out.mono ?_
        rintro e w7 ⟨rfl, hb7⟩
        go_wp2
        go_ret2
        refine ⟨?_, hb6.trans (hb7.mono hb6.size)⟩
        rw [HRK.out, hao, hbo]
        simp [errV_zero]
        first | done | rfl
      · obtain ⟨a, ha, hao, hab⟩ := Hm1.out (.inr rfl)
        obtain ⟨b, hb, hbo, hbb⟩ := Hm2.out (.inr rfl)
        have e1 := HN1.out a ha
        have e2 := HN2.out b hb
        subst e1 e2
        go_wp2_with fail
        refine (ci _ (by omega) (by omega) _ hb6).out.mono ?_
        rintro e w7 ⟨rfl, hb7⟩
        go_wp2
        go_ret2
        refine ⟨?_, hb6.trans (hb7.mono hb6.size)⟩
        rw [HRK.out, hao, hbo]
        simp [errV_zero]
        first | done | rfl
      · have hl1 := Hl1.out rfl
        have hl2 := Hl2.out rfl
        rw [hl1] at cl1
        rw [hl2] at cl2
        simp only [errV_zero] at cl1 cl2
        have hr := HRK.out
        simp at hr
        have hn1 : (splitL 44 offer).length ≤ 1000000 := by rw [splitL_length]; have := List.count_le_length (a := (44 : UInt8)) (l := offer); omega
        have hn2 : (splitL 44 own).length ≤ 1000000 := by rw [splitL_length]; have := List.count_le_length (a := (44 : UInt8)) (l := own); omega
        clear hl1 hl2 HRK
        generalize splitL 44 offer = L at *
        generalize splitL 44 own = H at *
        go_wp2_with fail
        refine (cl2 _).out.mono ?_
        rintro e w7 ⟨v2, rfl, hv2, hb7⟩
        have hb8 := hb6.trans (hb7.mono hb6.size)
        go_wp2_with fail
        refine (cl1 _).out.mono ?_
        rintro e w8 ⟨v1, rfl, hv1, hb9⟩
        have hv2 := hv2.below (by omega) hb9
        have hb9 := hb8.trans (hb9.mono hb8.size)
        obtain ⟨a1, q1, rfl, hc1⟩ := sl_str hv1
        obtain ⟨a2, q2, rfl, hc2⟩ := sl_str hv2
        clear hv1 hv2 cl1 cl2
        have HC1 := hid hc1; have HC2 := hid hc2; have HR := hid hr
        clear hc1 hc2 hr
        go_wp2
        go_loopw [99] (fun i wr => RF H L w8 i wr) (fun i _ => L.length - (intOf i).toNat)
        case atStart => exact ⟨0, by omega, rfl, rfl, rfl⟩
        case round =>
          obtain ⟨k, hk, rfl, hst, rfl⟩ := hrel
          by_cases hlt : k < L.length
          · obtain ⟨x, hx⟩ : ∃ x, L[k]? = some x := ⟨L[k], List.getElem?_eq_getElem hlt⟩
            obtain ⟨b1, o1, rfl, hcc⟩ := HC1.out.resolve_left (by omega)
            have hcx := hcc k x hx
            rw [firstIn_step H L k x hx] at hst
            have HST := hid hst
            clear hst hcc hx
            go_wp2
            go_loopw [105] (fun j wr2 => RFj H x wr j wr2) (fun j _ => H.length - (intOf j).toNat)
            case atStart => exact ⟨0, by omega, rfl, by simp, rfl⟩
            case round =>
              obtain ⟨m, hm, rfl, hno, rfl⟩ := hrel
              by_cases hmk : m < H.length
              · obtain ⟨y, hy⟩ : ∃ y, H[m]? = some y := ⟨H[m], List.getElem?_eq_getElem hmk⟩
                obtain ⟨b2, o2, rfl, hcc2⟩ := HC2.out.resolve_left (by omega)
                have hcy := hcc2 m y hy
                obtain ⟨hy1, hy2⟩ := List.getElem?_eq_some_iff.1 hy
                by_cases hxy : x = y
                · have hcon : H.contains x = true := by
                    rw [List.contains_iff_mem, hxy, ← hy2]
                    exact List.getElem_mem hy1
                  have hrr : R = (x, 0) := by rw [HR.out, HST.out, hcon]; rfl
                  have hbe : (x == y) = true := by simpa using hxy
                  clear hno hy hy1 hy2 hcon hxy hcc2
                  go_wp2
                  go_ret2
                  exact ⟨by rw [hrr]; rfl, hb9⟩
                · have hbe : (x == y) = false := by simpa using hxy
                  have hn2 : ∀ z ∈ H.take (m + 1), z ≠ x := by
                    intro z hz
                    rw [List.take_succ_eq_append_getElem hy1, hy2] at hz
                    rcases List.mem_append.1 hz with h | h
                    · exact hno z h
                    · rw [List.mem_singleton.1 h]; exact fun e => hxy e.symm
                  have HNO := hid hn2
                  clear hno hy hy1 hy2 hxy hn2 hcc2
                  go_wp2
                  go_roundw
                  case rel => exact ⟨m + 1, by omega, by go_num, HNO.out, rfl⟩
                  case measure => simp [intOf]; omega
              · obtain rfl : m = H.length := by omega
                have hcon : H.contains x = false := by
                  cases hq : H.contains x with
                  | false => rfl
                  | true => exact absurd rfl (hno x (by rw [List.take_length]; exact List.contains_iff_mem.1 hq))
                have hst := HST.out
                rw [hcon] at hst
                have HS2 := hid (show firstIn H L = firstIn H (L.drop (k + 1)) by rw [hst]; rfl)
                clear hno hcon hst HST
                go_wp2
                go_roundw
                case rel => exact ⟨k + 1, by omega, by go_num, HS2.out, rfl⟩
                case measure => simp [intOf]; omega
          · obtain rfl : k = L.length := by omega
            have hrr : R = ([], 8) := by rw [HR.out, hst, firstIn_end _ _ _ (Nat.le_refl _)]
            clear hst
            go_wp2
            go_ret2
            exact ⟨by rw [hrr]; rfl, hb9⟩
      · go_wp2
        go_ret2
        exact ⟨by rw [HRK.out]; rfl, hb6⟩
      · go_wp2
        go_ret2
        exact ⟨by rw [HRK.out]; rfl, hb6⟩
    · rw [errV_pos _ _ (by omega)] at cf2
      have hRb := hbad2.out (by first | exact rfl | trivial) hf2
      go_wp2_with fail
      refine (cf2 _ hb1).out.mono ?_
      rintro e w2 ⟨rfl, hb2⟩
      go_wp2
      go_ret2
      exact ⟨by rw [hRb, errV_pos _ _ (by omega)]; rfl, hb1.trans (hb2.mono hb1.size)⟩
  · rw [errV_pos _ _ (by omega)] at cf1
    have hRb := hbad1.out hf1
    go_wp2_with fail
    refine cf1.out.mono ?_
    rintro e w1 ⟨rfl, hb1⟩
    go_wp2
    go_ret2
    exact ⟨by rw [hRb, errV_pos _ _ (by omega)]; rfl, hb1⟩
end
end Go.Proofs.YtbimlijhgeajjaaGreatDoor

namespace Go.Proofs.YtbimlijhgeajjaaGreatDoor
open Go Go.RowKit
set_option linter.unusedVariables false
set_option linter.unusedSectionVars false
set_option linter.unusedSimpArgs false
set_option maxRecDepth 100000
theorem ofP_none {l : PL} {key : List UInt8} (h : findK keyRows key = none) : ofP l key = ([], 5) := by unfold ofP; rw [h]
theorem ofP_some {l : PL} {key : List UInt8} {k : KR} (h : findK keyRows key = some k) : ofP l key = (if (findP l key).2 = true then (findP l key).1 else k.dv, 0) := by unfold ofP; rw [h]
theorem dv_len : ∀ k ∈ keyRows, k.dv.length ≤ 255 := by decide +kernel
theorem findP_len {l : PL} {key : List UInt8} {B : Nat} (h : ∀ k, (l.getD k ([], [])).2.length ≤ B) : (findP l key).1.length ≤ B := by
  induction l with
  | nil => simp [findP]
  | cons x l ih =>
    rw [findP]
    split
    · exact h 0
    · exact ih fun k => by have := h (k + 1); simpa using this
theorem ofP_len {l : PL} {key : List UInt8} {B : Nat} (h : ∀ k, (l.getD k ([], [])).2.length ≤ B) (hB : 255 ≤ B) : (ofP l key).1.length ≤ B := by
  unfold ofP
  cases hk : findK keyRows key with
  | none => simp
  | some k =>
    simp only
    split
    · exact findP_len h
    · exact Nat.le_trans (dv_len k (List.mem_of_find?_eq_some hk)) hB
def pairV (x : List UInt8 × List UInt8) : Value := .agg #[.string (bs x.1), .string (bs x.2)]
section
variable (g : Nat) (ov rv : Value) (own rec : PL) (key : List UInt8) (w : World) (hb : Blk w g 105 #[ov, rv]) (hk : key.length ≤ 9223372036854775807) (hT : AS w)
include hb hk hT
theorem nOwn_any (h : PSl w ov own) (hn : own.length ≤ 9223372036854775807) : Calls Tryz.prog 90 #[.pointer (some ⟨g, 0, none⟩), .string (bs key)] w fun e w' => e = .returned (.tuple #[.string (bs (ofP own key).1), errV 32 (ofP own key).2]) ∧ Below w.heap.size w w' := by
  have co := hid (of_any key w hT)
  unfold OfPost at co
  have cf := fun W (hb : Below w.heap.size w W) => hid (find_any ov own key W (h.below hb) hn)
  unfold PFindPost at cf
  have HN := hid (@ofP_none own key)
  have HS := hid (fun k h => @ofP_some own key k h)
  have hgl := hb.lt
  have n0 := hb.cell 0
  simp only [List.getElem?_toArray, List.getElem?_cons_zero] at n0
  cases hfk : findK keyRows key with
  | none =>
    rw [hfk] at co
    have HE := hid (HN.out hfk)
    simp only [keyVal, keyErr] at co
    rw [errV_pos _ _ (by omega)] at co
    clear HN HS hfk
    go_enter Tryz.func90, Tryz.ntmps90
    go_wp2_with fail
    refine co.out.mono ?_
    rintro e w1 ⟨rfl, hb1⟩
    go_wp2
    go_ret2
    exact ⟨by rw [HE.out]; rfl, hb1.alloc hb1.size _⟩
  | some k =>
    rw [hfk] at co
    have HE := hid (HS.out _ hfk)
    simp only [keyVal, keyErr, KR.cells, errV_zero] at co
    generalize findP own key = fp at *
    obtain ⟨f1, f2⟩ := fp
    simp only at *
    clear HN HS hfk
    go_enter Tryz.func90, Tryz.ntmps90
    go_wp2_with fail
    refine co.out.mono ?_
    rintro e w1 ⟨rfl, hb1⟩
    obtain ⟨W2, hW2⟩ : ∃ W2, w1.alloc (.cells #[.string (bs k.name), .int .i64 (dnum k.lk : Int), .int .i64 (dnum k.ll : Int), .int .i64 (dnum k.lh : Int), .string (bs k.dv), .bool (k.no == [78]), .bool (k.lo == [76])] 125) = W2 := ⟨_, rfl⟩
    have hA2 : Below w1.heap.size w1 W2 := by rw [← hW2]; exact (Below.refl _ _).alloc (Nat.le_refl _) _
    have b2 := hb1.trans (hA2.mono hb1.size)
    have d4 : W2.cell? ⟨w1.heap.size, 4, none⟩ = some (.string (bs k.dv)) := by rw [← hW2]; simp
    have hlt2 : w1.heap.size < W2.heap.size := by rw [← hW2]; simp
    have n0 := (b2.cell (p := ⟨g, 0, none⟩) hgl).trans n0
    have cf2 := cf _ b2
    go_wp2_with fail
    refine cf2.out.mono ?_
    rintro e w3 ⟨rfl, hb3⟩
    have b3 := b2.trans (hb3.mono b2.size)
    have d4 := (hb3.cell (p := ⟨w1.heap.size, 4, none⟩) hlt2).trans d4
    cases f2 with
    | true =>
      go_wp2
      go_ret2
      exact ⟨by rw [HE.out]; rfl, b3⟩
    | false =>
      go_wp2
      go_ret2
      exact ⟨by rw [HE.out]; rfl, b3⟩
theorem nValue_any (h : PSl w rv rec) (hn : rec.length ≤ 9223372036854775807) : Calls Tryz.prog 137 #[.pointer (some ⟨g, 0, none⟩), .string (bs key)] w fun e w' => e = .returned (.tuple #[.string (bs (ofP rec key).1), errV 32 (ofP rec key).2]) ∧ Below w.heap.size w w' := by
  have co := hid (of_any key w hT)
  unfold OfPost at co
  have cf := fun W (hb : Below w.heap.size w W) => hid (find_any rv rec key W (h.below hb) hn)
  unfold PFindPost at cf
  have HN := hid (@ofP_none rec key)
  have HS := hid (fun k h => @ofP_some rec key k h)
  have hgl := hb.lt
  have n1 := hb.cell 1
  simp only [List.getElem?_toArray, List.getElem?_cons_zero, List.getElem?_cons_succ] at n1
  cases hfk : findK keyRows key with
  | none =>
    rw [hfk] at co
    have HE := hid (HN.out hfk)
    simp only [keyVal, keyErr] at co
    rw [errV_pos _ _ (by omega)] at co
    clear HN HS hfk
    go_enter Tryz.func137, Tryz.ntmps137
    go_wp2_with fail
    refine co.out.mono ?_
    rintro e w1 ⟨rfl, hb1⟩
    go_wp2
    go_ret2
    exact ⟨by rw [HE.out]; rfl, hb1.alloc hb1.size _⟩
  | some k =>
    rw [hfk] at co
    have HE := hid (HS.out _ hfk)
    simp only [keyVal, keyErr, KR.cells, errV_zero] at co
    generalize findP rec key = fp at *
    obtain ⟨f1, f2⟩ := fp
    simp only at *
    clear HN HS hfk
    go_enter Tryz.func137, Tryz.ntmps137
    go_wp2_with fail
    refine co.out.mono ?_
    rintro e w1 ⟨rfl, hb1⟩
    obtain ⟨W2, hW2⟩ : ∃ W2, w1.alloc (.cells #[.string (bs k.name), .int .i64 (dnum k.lk : Int), .int .i64 (dnum k.ll : Int), .int .i64 (dnum k.lh : Int), .string (bs k.dv), .bool (k.no == [78]), .bool (k.lo == [76])] 125) = W2 := ⟨_, rfl⟩
    have hA2 : Below w1.heap.size w1 W2 := by rw [← hW2]; exact (Below.refl _ _).alloc (Nat.le_refl _) _
    have b2 := hb1.trans (hA2.mono hb1.size)
    have d4 : W2.cell? ⟨w1.heap.size, 4, none⟩ = some (.string (bs k.dv)) := by rw [← hW2]; simp
    have hlt2 : w1.heap.size < W2.heap.size := by rw [← hW2]; simp
    have n1 := (b2.cell (p := ⟨g, 1, none⟩) hgl).trans n1
    have cf2 := cf _ b2
    go_wp2_with fail
    refine cf2.out.mono ?_
    rintro e w3 ⟨rfl, hb3⟩
    have b3 := b2.trans (hb3.mono b2.size)
    have d4 := (hb3.cell (p := ⟨w1.heap.size, 4, none⟩) hlt2).trans d4
    cases f2 with
    | true =>
      go_wp2
      go_ret2
      exact ⟨by rw [HE.out]; rfl, b3⟩
    | false =>
      go_wp2
      go_ret2
      exact ⟨by rw [HE.out]; rfl, b3⟩
end
theorem rof_any (v : Value) (l : PL) (key : List UInt8) (w : World) (h : PSl w v l) (hn : l.length ≤ 9223372036854775807) (hk : key.length ≤ 9223372036854775807) :
    Calls Tryz.prog 85 #[v, .string (bs key)] w fun e w' => e = .returned (.tuple #[.string (bs (ofP l key).1), .int .i64 ((ofP l key).2 : Nat)]) ∧ Below w.heap.size w w' := by
  have co := hid (keyOf_any key w)
  have cf := fun W (hb : Below w.heap.size w W) => hid (rfind_any v l key W (h.below hb) hn)
  unfold PFindPost at cf
  have HN := hid (@ofP_none l key)
  have HS := hid (fun k h => @ofP_some l key k h)
  cases hfk : findK keyRows key with
  | none =>
    rw [hfk] at co
    have HE := hid (HN.out hfk)
    simp only [keyVal, keyErr] at co
    clear HN HS hfk
    go_enter Tryz.func85, Tryz.ntmps85
    go_wp2_with fail
    refine co.out.mono ?_
    rintro e w1 ⟨rfl, hb1⟩
    go_wp2
    go_ret2
    exact ⟨by rw [HE.out]; rfl, hb1.alloc hb1.size _⟩
  | some k =>
    rw [hfk] at co
    have HE := hid (HS.out _ hfk)
    simp only [keyVal, keyErr, KR.cells] at co
    generalize findP l key = fp at *
    obtain ⟨f1, f2⟩ := fp
    simp only at *
    clear HN HS hfk
    go_enter Tryz.func85, Tryz.ntmps85
    go_wp2_with fail
    refine co.out.mono ?_
    rintro e w1 ⟨rfl, hb1⟩
    obtain ⟨W2, hW2⟩ : ∃ W2, w1.alloc (.cells #[.string (bs k.name), .int .i64 (dnum k.lk : Int), .int .i64 (dnum k.ll : Int), .int .i64 (dnum k.lh : Int), .string (bs k.dv), .bool (k.no == [78]), .bool (k.lo == [76])] 125) = W2 := ⟨_, rfl⟩
    have hA2 : Below w1.heap.size w1 W2 := by rw [← hW2]; exact (Below.refl _ _).alloc (Nat.le_refl _) _
    have b2 := hb1.trans (hA2.mono hb1.size)
    have d4 : W2.cell? ⟨w1.heap.size, 4, none⟩ = some (.string (bs k.dv)) := by rw [← hW2]; simp
    have hlt2 : w1.heap.size < W2.heap.size := by rw [← hW2]; simp
    have cf2 := cf _ b2
    go_wp2_with fail
    refine cf2.out.mono ?_
    rintro e w3 ⟨rfl, hb3⟩
    have b3 := b2.trans (hb3.mono b2.size)
    have d4 := (hb3.cell (p := ⟨w1.heap.size, 4, none⟩) hlt2).trans d4
    cases f2 with
    | true =>
      go_wp2
      go_ret2
      exact ⟨by rw [HE.out]; rfl, b3⟩
    | false =>
      go_wp2
      go_ret2
      exact ⟨by rw [HE.out]; rfl, b3⟩
section
variable (g : Nat) (mv rv : Value) (key : List UInt8) (w : World) (hb : Blk w g 89 #[mv, rv]) (hk : key.length ≤ 9223372036854775807)
include hb hk
theorem rOwn_any (mine : PL) (h : PSl w mv mine) (hn : mine.length ≤ 9223372036854775807) : Calls Tryz.prog 44 #[.pointer (some ⟨g, 0, none⟩), .string (bs key)] w fun e w' => e = .returned (.tuple #[.string (bs (ofP mine key).1), .int .i64 ((ofP mine key).2 : Nat)]) ∧ Below w.heap.size w w' := by
  have co := hid (rof_any mv mine key w h hn hk)
  have n0 := hb.cell 0
  simp only [List.getElem?_toArray, List.getElem?_cons_zero] at n0
  generalize ofP mine key = q at *
  go_enter Tryz.func44, Tryz.ntmps44
  go_wp2_with fail
  refine co.out.mono ?_
  rintro e w1 ⟨rfl, hb1⟩
  go_wp2
  go_ret2
  exact ⟨rfl, hb1⟩
theorem rValue_any (rec : PL) (h : PSl w rv rec) (hn : rec.length ≤ 9223372036854775807) : Calls Tryz.prog 98 #[.pointer (some ⟨g, 0, none⟩), .string (bs key)] w fun e w' => e = .returned (.tuple #[.string (bs (ofP rec key).1), .int .i64 ((ofP rec key).2 : Nat)]) ∧ Below w.heap.size w w' := by
  have co := hid (rof_any rv rec key w h hn hk)
  have n1 := hb.cell 1
  simp only [List.getElem?_toArray, List.getElem?_cons_zero, List.getElem?_cons_succ] at n1
  generalize ofP rec key = q at *
  go_enter Tryz.func98, Tryz.ntmps98
  go_wp2_with fail
  refine co.out.mono ?_
  rintro e w1 ⟨rfl, hb1⟩
  go_wp2
  go_ret2
  exact ⟨rfl, hb1⟩
end
end Go.Proofs.YtbimlijhgeajjaaGreatDoor
