/- All keys that are known: by the program and by the document. -/
import Derived.Test.YtkkjmfllibnfcaaDoorSeqInv
import Derived.Test.YtkkjmfllibnfcaaDoorKeyPure
import Derived.Test.YtkkjmfllibnfcaaDoorShelfF
namespace Go.Proofs.YtkkjmfllibnfcaaDoor
open Go Go.RowKit Go.Shelf
set_option linter.unusedVariables false
set_option maxRecDepth 100000
attribute [local go_sem] Oper.semAt_some
theorem key_of_pre {pre : List (List UInt8)} {x : List UInt8} (h : pre ++ [x] <+: splitL 124 keyText) : ∃ k, keyRows[pre.length]? = some k ∧ x = k.text ∧ pre = (keyRows.take pre.length).map KR.text := by
  rw [splitKeys] at h
  obtain ⟨t, ht⟩ := h
  have hl : pre.length < keyRows.length := by
    have := congrArg List.length ht
    simp at this; omega
  refine ⟨keyRows[pre.length], by simp [hl], ?_, ?_⟩
  · have := congrArg (·[pre.length]?) ht
    simpa [List.getElem?_append, hl] using this
  · have := congrArg (·.take pre.length) ht
    simpa [List.map_take] using this
def NamesPost (w : World) (e : Ending) (w' : World) : Prop :=
  ∃ v, e = .returned v ∧ w'.ownsRow w.heap.size 9 1 v keyRows.length (keyRows.map fun k => Value.string (bs k.name)) ∧ Below w.heap.size w w'
theorem kt_len : keyText.length ≤ 1099511627776 := by decide
def INames (base b : Nat) (w0 : World) (pre : List (List UInt8)) (W : World) : Prop :=
  ∃ v, Blk W base 35 #[v] ∧ W.ownsRow (b + 3) 9 1 v pre.length ((keyRows.take pre.length).map fun k => Value.string (bs k.name)) ∧ Below base w0 W ∧ b + 2 < W.heap.size
theorem stands_names (base b B : Nat) (w0 : World) (h1 : base < b) (h2 : b + 2 < B) (h3 : base ≤ w0.heap.size) : Stands B b (INames base b w0) := by
  refine ⟨?_, ?_, ?_⟩
  · rintro s A o ⟨v, hv, hr, hb, hs⟩
    exact ⟨v, hv.below ((Below.refl _ _).alloc (Nat.le_refl _) _), hr.alloc o, hb.alloc (Nat.le_trans h3 hb.size) _, by rw [World.size_alloc]; omega⟩
  · rintro s A l o o' ⟨v, hv, hr, hb, hs⟩ hl hl' ho
    exact ⟨v, blk_put hv hl' ho o', owns_put hr hl' ho o', below_put hb (by omega) _, by simpa using hs⟩
  · rintro s A u ⟨v, hv, hr, hb, hs⟩
    exact ⟨v, hv.far (by simp only; omega) u, owns_set hr (by simp only; omega) u, below_set hb (by simp only; omega) u, by simpa [World.setCell] using hs⟩
set_option maxHeartbeats 4000000 in
theorem names_any (w : World) : Calls Tryd.prog 11 #[] w fun e w' => NamesPost w e w' := by
  have c1 : ∀ (s : ByteArray) (h : s = bs keyText) (w : World), Hid (Calls Tryd.prog 18 #[.string s, .string (bs [124])] w (SeqPost w keyText 124)) := by
    rintro s rfl w; exact hid (sSplitSeq_any keyText 124 w)
  have c2 := fun l hl w => hid (cut1_any l 32 w hl)
  refine (callsIn_wide (n := 3)).1 ?_
  refine callsIn_of_wp_marks Tryd.func11 rfl trivial ?_ rfl
  simp only [Tryd.ntmps11, List.size_toArray, List.length_cons, List.length_nil, Nat.reduceAdd, Nat.reduceSub, Array.replicate_succ, Array.replicate_zero, List.push_toArray, List.append_toArray, List.nil_append, List.cons_append]
  gi_wp2_with (refine ⟨trivial, ?_⟩; gi_at_call 18; refine (callsIn_wide.2 (c1 _ (by kernel_rfl) _).out).mono ?_; rintro e w1 ⟨b, hb, rfl, hB, hbl⟩)

  simp only [World.size_alloc] at hb
  refine range_split 124 keyText kt_len b rfl hB rfl (INames w.heap.size b w) (fun _ _ _ => False) (stands_names _ _ _ _ (by omega) (Array.getElem?_eq_some_iff.1 hB.2.2).1 (Nat.le_refl _)) (fun _ => ⟨fun _ _ _ h => h, fun _ _ _ _ _ h _ _ _ => h, fun _ _ _ h => h⟩) ?h0
    (fun x => { tmps := #[.slice none 0 0, .pointer (some ⟨w.heap.size, 0, none⟩), .string (bs x), undef, undef, undef, .func (.func 32) #[] #[.pointer (some ⟨b + 1, 0, none⟩), .pointer (some ⟨b, 0, none⟩), .pointer (some ⟨b + 2, 0, none⟩)], .string (bs x), undef, undef, undef, undef, undef, undef, undef, undef, undef, undef, undef], defers := [] }) ?assign ?body ?done ?stop
  case h0 =>
    refine ⟨.slice none 0 0, (Blk.new w _ _).below (by simpa using hbl), World.ownsRow_nil _ _ _ _, ((Below.refl _ w).alloc (Nat.le_refl _) _).trans (hbl.mono (by simp)), (Array.getElem?_eq_some_iff.1 hB.2.2).1⟩
  case assign =>
    intro l x W K hK
    gi_wp2
    exact hK
  case body =>
    rintro lp pre x W ⟨v, hv, hr, hbW, hs⟩ hpre
    obtain ⟨k, hk, rfl, hpr⟩ := key_of_pre hpre
    have hkm := List.mem_of_getElem? hk
    obtain ⟨f1, f2, f3, f4, f5, f6, f7, f8, f9, f10, f11⟩ := key_fine k hkm
    have c2 := c2 k.text (by omega)
    have hcut : (cutL 32 k.text).1 = k.name := by
      have := cutL_split 32 k.text
      rw [f10] at this
      split at this
      · exact (List.cons.inj this).1.symm
      · have h2 := congrArg List.length this
        simp [KR.words] at h2
    have hlen : pre.length < keyRows.length := (List.getElem?_eq_some_iff.1 hk).1
    have hkr : keyRows.length = 18 := by decide
    have hsz := hbW.size
    have g0 : W.cell? ⟨w.heap.size, 0, none⟩ = some v := (hv.cell 0).trans rfl
    have hR := hid hr; have HV := hid hv
    have hn0 : (keyRows.take (pre.length + 1)).map (fun k => Value.string (bs k.name)) = (keyRows.take pre.length).map (fun k => Value.string (bs k.name)) ++ [Value.string (bs k.name)] := by
      rw [List.take_succ_eq_append_getElem hlen, List.map_append]
      rw [List.getElem?_eq_getElem hlen, Option.some.injEq] at hk
      rw [hk]; rfl
    have Hn0 := hid hn0
    have hb3 : b + 3 ≤ W.heap.size := by omega
    clear hr hv f1 f2 f3 f4 f5 f6 f7 f8 f9 f10 f11 hpr hpre hkm hk hn0
    unfold CutPost at c2
    rw [hcut] at c2
    gi_wp2_with (first
      | (refine ⟨trivial, ?_⟩; gi_at_call 22; refine (CallsIn.inRound lp (callsIn_wide.2 (c2 _).out)).mono ?_; rintro e w1 ⟨rfl, n, rfl⟩)
      | (gi_at_builtin; refine listIn_append_own rfl _ _ 35 rfl (b + 3) 9 (.string ⟨#[]⟩) 1 16 Tryd.underlying35 infoStr0 rfl (by decide) v pre.length _ rfl ((owns_drewN hR.out n).alloc _) ⟨W.heap.size, 0, none⟩ 1 1 [.string (bs k.name)] rfl rfl (cell_one_new _ _ _) (by simp [Value.oneCell']) (by unfold maxLen; omega) (by omega) (by simp; omega) ?_; intro v' w3 hown3 hgrow _
         have hB3 := Blk.grown ((blk_drewN HV.out n).below ((Below.refl _ _).alloc (Nat.le_refl _) _)) ((owns_drewN hR.out n).alloc _) hgrow (by omega)
         have f3 : w3.frozen? ⟨w.heap.size, 0, none⟩ = false := hB3.free 0
         have g3 : w3.cell? ⟨w.heap.size, 0, none⟩ = some v := (hB3.cell 0).trans rfl
         obtain ⟨gv, cv, rfl, _⟩ := own_form hown3 (by omega) (by omega)
         go_frame))
    have hgW : W.grownBy w3 v.ownBlock := only_trans (only_alloc (only_drewN (only_refl W _) n) _) hgrow
    have hlt3 : b + 2 < w3.heap.size := by have := hgW.size; omega
    refine ⟨(others_own hR.out hgW).trans (KeepsOthers.setCell _ _ _), KpB.trans (kpB_grown hgW hs fun g hg => .inr (by have := (hR.out.lt g hg).1; omega)) (kpB_set _ (.inl (by simp only; omega)) _), ?_⟩
    refine ⟨_, hB3.set 0 _, ?_, below_set (below_append hbW (owns_base hR.out (by omega)) hgW (by omega)) (by simp only; omega) _, by simpa [World.setCell] using hlt3⟩
    rw [List.length_append, List.length_singleton, Hn0.out]
    exact owns_set hown3 (by simp only; omega) _
  case done =>
    rintro D W hD ⟨v, hv, hr, hbW, hs⟩ hK
    have g0 : W.cell? ⟨w.heap.size, 0, none⟩ = some v := (hv.cell 0).trans rfl
    have hsl : (splitL 124 keyText).length = keyRows.length := by rw [splitKeys, List.length_map]
    rw [hsl, List.take_length] at hr
    have hr := owns_base hr (show w.heap.size ≤ b + 3 by omega)
    obtain ⟨gv, cv, rfl, _⟩ := own_form hr (by omega) (by decide)
    gi_wp2
    refine ⟨by simp, .inl ⟨_, _, rfl, run_takeDeferred hK, ?_⟩⟩
    have hD' : D ≠ gv := by
      rintro rfl
      rcases hr.2 with ⟨h, _⟩ | ⟨g, cap, cur, h, _, hgb, _⟩
      · cases h
      · cases h; rw [hgb] at hK; cases hK
    exact ⟨_, results_tmp rfl _ _ _, _, rfl, owns_put hr hK rfl _, below_put hbW (by have := hbl.size; simp at this; omega) _⟩
  case stop =>
    rintro D j pre W _ h _
    exact h.elim
end Go.Proofs.YtkkjmfllibnfcaaDoor
