/- What is known of a key: by the program. -/
import Derived.Test.YtbimlijhgeajjaaGreatDoorPlan
set_option linter.unusedSectionVars false
set_option linter.unusedSimpArgs false
set_option linter.unusedVariables false
namespace Go.Proofs.YtbimlijhgeajjaaGreatDoor
open Go Go.RowKit Go.Shelf
set_option linter.unusedVariables false
set_option maxRecDepth 100000
attribute [local go_sem] Oper.semAt_some
def zero7 : Array Value := #[.string (bs []), .int .i64 0, .int .i64 0, .int .i64 0, .string (bs []), .bool false, .bool false]
structure IOf (base b : Nat) (name : List UInt8) (w0 : World) (pre : List (List UInt8)) (W : World) : Prop where
  below : Below base w0 W
  nm : Blk W base 9 #[.string (bs name)]
  res : Blk W (base + 1) 125 zero7
  err : Blk W (base + 2) 39 #[.nilIface]
  no : ∀ x ∈ keyRows.take pre.length, x.name ≠ name
  lt : b + 2 < W.heap.size
structure XOf (base b : Nat) (name : List UInt8) (w0 : World) (j : Code) (pre : List (List UInt8)) (W : World) : Prop where
  ret : j = .ret
  below : Below base w0 W
  ok : ∃ k, findK keyRows name = some k ∧ Blk W (base + 1) 125 k.cells.toArray
  err : Blk W (base + 2) 39 #[.nilIface]
theorem stands_of (base b B : Nat) (name : List UInt8) (w0 : World) (h1 : base + 2 < b) (h2 : b + 2 < B) (h3 : base ≤ w0.heap.size) : Stands B b (IOf base b name w0) := by
  refine ⟨?_, ?_, ?_⟩
  · rintro s A o ⟨a1, a2, a3, a4, a5, a6⟩
    have hb : Below A.heap.size A (A.alloc o) := (Below.refl _ _).alloc (Nat.le_refl _) _
    exact ⟨a1.alloc (Nat.le_trans h3 a1.size) _, a2.below hb, a3.below hb, a4.below hb, a5, by rw [World.size_alloc]; omega⟩
  · rintro s A l o o' ⟨a1, a2, a3, a4, a5, a6⟩ hl hl' ho
    exact ⟨below_put a1 (by omega) _, blk_put a2 hl' ho o', blk_put a3 hl' ho o', blk_put a4 hl' ho o', a5, by simpa using a6⟩
  · rintro s A u ⟨a1, a2, a3, a4, a5, a6⟩
    exact ⟨below_setc a1 (by omega) _ _, a2.far (by simp only; omega) u, a3.far (by simp only; omega) u, a4.far (by simp only; omega) u, a5, by simpa [World.setCell] using a6⟩
theorem standsX_of (base b B : Nat) (name : List UInt8) (w0 : World) (j : Code) (h1 : base + 2 < b) (h2 : b + 2 < B) (h3 : base ≤ w0.heap.size) : Stands B b (XOf base b name w0 j) := by
  refine ⟨?_, ?_, ?_⟩
  · rintro s A o ⟨a1, a2, ⟨k, hk, a3⟩, a4⟩
    have hb : Below A.heap.size A (A.alloc o) := (Below.refl _ _).alloc (Nat.le_refl _) _
    exact ⟨a1, a2.alloc (Nat.le_trans h3 a2.size) _, ⟨k, hk, a3.below hb⟩, a4.below hb⟩
  · rintro s A l o o' ⟨a1, a2, ⟨k, hk, a3⟩, a4⟩ hl hl' ho
    exact ⟨a1, below_put a2 (by omega) _, ⟨k, hk, blk_put a3 hl' ho o'⟩, blk_put a4 hl' ho o'⟩
  · rintro s A u ⟨a1, a2, ⟨k, hk, a3⟩, a4⟩
    exact ⟨a1, below_setc a2 (by omega) _ _, ⟨k, hk, a3.far (by simp only; omega) u⟩, a4.far (by simp only; omega) u⟩
def OfPost (name : List UInt8) (w : World) (e : Ending) (w' : World) : Prop :=
  e = .returned (.tuple #[keyVal (findK keyRows name), errV 32 (keyErr (findK keyRows name))]) ∧ Below w.heap.size w w'
def nArr (k : KR) (j : Nat) : Array Value := #[.int .i64 (if 0 < j then (dnum k.lk : Int) else 0), .int .i64 (if 1 < j then (dnum k.ll : Int) else 0), .int .i64 (if 2 < j then (dnum k.lh : Int) else 0)]
theorem of_end {B r r2 : Nat} {T T2 : TypeId} {wr : World} (v0 v1 v2 v3 v4 v5 v6 e e0 : Value) (o : Obj) (h1 : Blk wr r T zero7) (h2 : Blk wr r2 T2 #[e0]) (hne : r ≠ r2) (hr : B ≤ r) (hr2 : B ≤ r2) :
    let W6 := (((((((((wr.setCell ⟨r, 0, none⟩ v0).setCell ⟨r, 1, none⟩ v1).setCell ⟨r, 2, none⟩ v2).setCell ⟨r, 3, none⟩ v3).setCell ⟨r, 4, none⟩ v4).setCell ⟨r, 5, none⟩ v5).setCell ⟨r, 6, none⟩ v6).setCell ⟨r2, 0, none⟩ e).alloc o).drew
    KeepsOthers wr W6 ∧ Below B wr W6 ∧ Blk W6 r T #[v0, v1, v2, v3, v4, v5, v6] ∧ Blk W6 r2 T2 #[e] := by
  intro W6
  have hlt := h1.lt
  refine ⟨?_, ?_, ?_, ?_⟩
  · refine KeepsOthers.trans ?_ (KeepsOthers.drew _)
    refine KeepsOthers.trans ?_ (KeepsOthers.alloc _ _)
    iterate 8 refine KeepsOthers.trans ?_ (KeepsOthers.setCell _ _ _)
    exact KeepsOthers.refl _
  · refine Below.drew ?_
    refine Below.alloc ?_ (by simp [World.setCell]; omega) _
    refine below_setc ?_ hr2 _ _
    iterate 7 refine below_setc ?_ hr _ _
    exact Below.refl _ _
  · have h := ((((((((h1.set 0 v0).set 1 v1).set 2 v2).set 3 v3).set 4 v4).set 5 v5).set 6 v6).far (p := ⟨r2, 0, none⟩) hne e)
    exact h.below (((Below.refl _ _).alloc (Nat.le_refl _) _).drew)
  · have h := (((((((h2.far (p := ⟨r, 0, none⟩) hne.symm v0).far (p := ⟨r, 1, none⟩) hne.symm v1).far (p := ⟨r, 2, none⟩) hne.symm v2).far (p := ⟨r, 3, none⟩) hne.symm v3).far (p := ⟨r, 4, none⟩) hne.symm v4).far (p := ⟨r, 5, none⟩) hne.symm v5).far (p := ⟨r, 6, none⟩) hne.symm v6).set 0 e
    exact h.below (((Below.refl _ _).alloc (Nat.le_refl _) _).drew)
theorem of_end0 {B r r2 D : Nat} {T T2 : TypeId} {wr : World} (v0 v1 v2 v3 v4 v5 v6 e e0 : Value) (ob : Obj) (h1 : Blk wr r T zero7) (h2 : Blk wr r2 T2 #[e0]) (hD : wr.heap[D]? = some ob) (hob : ob.isCells = false) (hne : r ≠ r2) (hr : B ≤ r) (hr2 : B ≤ r2) :
    ∃ W6, ((((((((wr.setCell ⟨r, 0, none⟩ v0).setCell ⟨r, 1, none⟩ v1).setCell ⟨r, 2, none⟩ v2).setCell ⟨r, 3, none⟩ v3).setCell ⟨r, 4, none⟩ v4).setCell ⟨r, 5, none⟩ v5).setCell ⟨r, 6, none⟩ v6).setCell ⟨r2, 0, none⟩ e) = W6 ∧
    W6.heap[D]? = some ob ∧ Below B wr W6 ∧ Blk W6 r T #[v0, v1, v2, v3, v4, v5, v6] ∧ Blk W6 r2 T2 #[e] := by
  refine ⟨_, rfl, ?_, ?_, ?_, ?_⟩
  · have d1 : D ≠ r := by rintro rfl; unfold Blk at h1; rw [h1] at hD; cases hD; cases hob
    have d2 : D ≠ r2 := by rintro rfl; unfold Blk at h2; rw [h2] at hD; cases hD; cases hob
    rw [Below.heap_setCell _ _ _ _ d2]
    iterate 7 rw [Below.heap_setCell _ _ _ _ d1]
    exact hD
  · refine below_setc ?_ hr2 _ _
    iterate 7 refine below_setc ?_ hr _ _
    exact Below.refl _ _
  · exact ((((((((h1.set 0 v0).set 1 v1).set 2 v2).set 3 v3).set 4 v4).set 5 v5).set 6 v6).far (p := ⟨r2, 0, none⟩) hne e)
  · exact (((((((h2.far (p := ⟨r, 0, none⟩) hne.symm v0).far (p := ⟨r, 1, none⟩) hne.symm v1).far (p := ⟨r, 2, none⟩) hne.symm v2).far (p := ⟨r, 3, none⟩) hne.symm v3).far (p := ⟨r, 4, none⟩) hne.symm v4).far (p := ⟨r, 5, none⟩) hne.symm v5).far (p := ⟨r, 6, none⟩) hne.symm v6).set 0 e
def ROf (k : KR) (W W2 : World) (i : Value) (wr : World) : Prop :=
  ∃ j : Nat, j ≤ 3 ∧ i = .int .i64 (j : Nat) ∧ Blk wr (W.heap.size + 1) 218 (nArr k j) ∧ Below (W.heap.size + 1) W2 wr
set_option maxHeartbeats 4000000 in
theorem of_any (name : List UInt8) (w : World) (hT : AS w) : Calls Tryz.prog 72 #[.string (bs name)] w fun e w' => OfPost name w e w' := by
  have c1 : ∀ (s : ByteArray) (h : s = bs keyText) (w : World), Hid (Calls Tryz.prog 112 #[.string s, .string (bs [124])] w (SeqPost w keyText 124)) := by
    rintro s rfl w; exact hid (sSplitSeq_any keyText 124 w)
  have c2 := fun (k : KR) (hk : k ∈ keyRows) (w : World) (h : AS w) => hid (fields_any k.text w (by have := (key_fine k hk).2.2.1; omega) (key_fine k hk).2.1 h)
  have c3 := fun l n w h1 h2 => hid (atoi_any l n w h1 h2)
  refine (callsIn_wide (n := 3)).1 ?_
  refine callsIn_of_wp_marks Tryz.func72 rfl trivial ?_ rfl
  simp only [Tryz.ntmps72, List.size_toArray, List.length_cons, List.length_nil, Nat.reduceAdd, Nat.reduceSub, Array.replicate_succ, Array.replicate_zero, List.push_toArray, List.append_toArray, List.nil_append, List.cons_append]
  gi_wp2_with (refine ⟨trivial, ?_⟩; gi_at_call 112; refine (callsIn_wide.2 (c1 _ (by kernel_rfl) _).out).mono ?_; rintro e w1 ⟨b, hb, rfl, hB, hbl⟩)
  simp only [World.size_alloc] at hb
  have hb2 := (Array.getElem?_eq_some_iff.1 hB.2.2).1
  have hsz1 : w.heap.size + 3 ≤ w1.heap.size := by omega
  have r0 := (Blk.new w 9 #[.string (bs name)])
  have r1 := (Blk.new (w.alloc (.cells #[.string (bs name)] 9)) 125 zero7)
  have r2 := (Blk.new ((w.alloc (.cells #[.string (bs name)] 9)).alloc (.cells zero7 125)) 39 #[.nilIface])
  have r1' := r1.below ((Below.refl _ _).alloc (Nat.le_refl _) (.cells #[.nilIface] 39))
  have r0' := (r0.below ((Below.refl _ _).alloc (Nat.le_refl _) (.cells zero7 125))).below ((Below.refl _ _).alloc (Nat.le_refl _) (.cells #[.nilIface] 39))
  have r0 := r0'.below hbl
  have r1 := r1'.below hbl
  have r2 := r2.below hbl
  simp only [World.size_alloc] at r0 r1 r2
  have hb0 : Below w.heap.size w w1 := ((((Below.refl _ w).alloc (Nat.le_refl _) _).alloc (by simp) _).alloc (by simp; omega) _).trans (hbl.mono (by simp; omega))
  clear r1' r0' hbl
  refine range_split 124 keyText kt_len b rfl hB rfl (IOf w.heap.size b name w) (XOf w.heap.size b name w) (stands_of _ _ _ _ _ (by omega) hb2 (Nat.le_refl _)) (fun j => standsX_of _ _ _ _ _ _ (by omega) hb2 (Nat.le_refl _)) ⟨hb0, r0, r1, r2, by simp, hb2⟩
    (fun x => { tmps := #[.string (bs name), .pointer (some ⟨w.heap.size, 0, none⟩), .pointer (some ⟨w.heap.size + 1, 0, none⟩), .pointer (some ⟨w.heap.size + 2, 0, none⟩), .string (bs x), undef, undef, undef, undef, .func (.func 176) #[] #[.pointer (some ⟨b + 1, 0, none⟩), .pointer (some ⟨b, 0, none⟩), .pointer (some ⟨b + 2, 0, none⟩)], .string (bs x), undef, undef, undef, undef, undef, undef, undef, undef, undef, undef, undef, undef, undef, undef, undef, undef, undef, undef, undef, undef, undef, undef, undef, undef, undef, undef, undef, undef, undef, undef, undef, undef, undef, undef, undef, undef, undef, undef, undef, undef, undef, undef, undef, undef, undef, undef, undef, undef], defers := [] }) ?assign ?body ?done ?stop
  case assign =>
    intro l x W K hK
    gi_wp2
    exact hK
  case body =>
    rintro lp pre x W ⟨i1, i2, i3, i4, i5, i6⟩ hpre
    obtain ⟨k, hk, rfl, hpr⟩ := key_of_pre hpre
    have hkm := List.mem_of_getElem? hk
    obtain ⟨f1, f2, f3, f4, f5, f6, f7, f8, f9, f10, f11⟩ := key_fine k hkm
    have c2 := c2 k hkm W (hT.below i1 (Nat.le_refl _))
    rw [f1] at c2
    simp only [KR.words, List.map_cons, List.map_nil, List.length_cons, List.length_nil, Nat.reduceAdd] at c2
    have p0 : W.cell? ⟨w.heap.size, 0, none⟩ = some (.string (bs name)) := (i2.cell 0).trans rfl
    have HT := hid hT
    have hp0 : w.heap.size < W.heap.size := by omega
    have hsW := i1.size
    have hmx : Tryz.prog.follows .mixedOrders = true := by kernel_rfl
    clear f2 f10 hpr hpre c1 hT
    by_cases hname : k.name = name
    · have Hf := hid (findK_take hk i5 hname)
      subst hname
      clear i5 hk
      gi_wp2_with (refine ⟨trivial, ?_⟩; gi_at_call 113; refine (CallsIn.inRound lp (callsIn_wide.2 c2.out)).mono ?_; rintro e w1 ⟨rfl, rfl⟩)
      refine region_reads { tmps := #[.string (bs k.name), .pointer (some ⟨w.heap.size, 0, none⟩), .pointer (some ⟨w.heap.size + 1, 0, none⟩), .pointer (some ⟨w.heap.size + 2, 0, none⟩), .string (bs k.text), .slice (some ⟨W.heap.size, 0, none⟩) 7 7, undef, undef, undef, .func (.func 176) #[] #[.pointer (some ⟨b + 1, 0, none⟩), .pointer (some ⟨b, 0, none⟩), .pointer (some ⟨b + 2, 0, none⟩)], .string (bs k.text), .string (bs k.text), .slice (some ⟨W.heap.size, 0, none⟩) 7 7, .slice (some ⟨W.heap.size, 0, none⟩) 7 7, .pointer (some ⟨W.heap.size, 0, none⟩), .string (bs k.name), .string (bs k.name), .bool false, undef, undef, undef, undef, undef, undef, undef, undef, undef, undef, undef, undef, undef, undef, undef, undef, undef, undef, undef, undef, undef, undef, undef, undef, undef, undef, undef, undef, undef, undef, undef, undef, undef, undef, undef, undef, undef, undef, undef, undef, undef], defers := [] } hmx (by kernel_rfl) rfl ?ag ?each ?go
      case ag => simp [Agree, writes]
      case each =>
        simp [EachOp, go_sem, Oper.about, p0, hp0]
      case go =>
        gi_wp2
        obtain ⟨W2, hW2⟩ : ∃ W2, ((W.alloc (.cells #[.string (bs k.name), .string (bs k.lk), .string (bs k.ll), .string (bs k.lh), .string (bs k.dflt), .string (bs k.no), .string (bs k.lo)] 9)).alloc (.cells #[.int .i64 0, .int .i64 0, .int .i64 0] 218)).drew = W2 := ⟨_, rfl⟩
        have hbW : Below W.heap.size W W2 := by rw [← hW2]; exact (((Below.refl _ _).alloc (Nat.le_refl _) _).alloc (by simp) _).drew
        have hbn : Blk W2 (W.heap.size + 1) 218 (nArr k 0) := by rw [← hW2]; exact (show Blk ((W.alloc _).alloc _) _ _ _ by simpa [nArr] using Blk.new (W.alloc _) _ _)
        have hbw : Blk W2 W.heap.size 9 #[.string (bs k.name), .string (bs k.lk), .string (bs k.ll), .string (bs k.lh), .string (bs k.dflt), .string (bs k.no), .string (bs k.lo)] := by
          rw [← hW2]; exact (Blk.new W _ _).below (((Below.refl _ _).alloc (Nat.le_refl _) _).drew)
        have hs2 : W2.heap.size = W.heap.size + 2 := by rw [← hW2]; simp
        rw [hW2]
        clear hW2
        gi_loopw [18] (fun i wr => ROf k W W2 i wr) (fun i _ => 3 - (intOf i).toNat)
        case atStart => exact ⟨0, by omega, rfl, hbn, Below.refl _ _⟩
        case round =>
          obtain ⟨j, hj, rfl, hN, hb⟩ := hrel
          have hB := hb.size
          have hn1 : W.heap.size + 1 < wr.heap.size := by omega
          have hbw' : Blk wr W.heap.size 9 #[.string (bs k.name), .string (bs k.lk), .string (bs k.ll), .string (bs k.lh), .string (bs k.dflt), .string (bs k.no), .string (bs k.lo)] := (hb.block W.heap.size (by omega)).trans hbw
          have x1 : wr.cell? ⟨W.heap.size, 1, none⟩ = some (.string (bs k.lk)) := (hbw'.cell 1).trans rfl
          have x2 : wr.cell? ⟨W.heap.size, 2, none⟩ = some (.string (bs k.ll)) := (hbw'.cell 2).trans rfl
          have x3 : wr.cell? ⟨W.heap.size, 3, none⟩ = some (.string (bs k.lh)) := (hbw'.cell 3).trans rfl
          have HN := hid hN; have HB := hid hb
          clear hN hb
          rcases (by omega : j = 0 ∨ j = 1 ∨ j = 2 ∨ j = 3) with rfl | rfl | rfl | rfl
          · have c3 := c3 k.lk _ wr f7 f4
            have y : wr.cell? ⟨W.heap.size + 1, 0, none⟩ = some (.int .i64 0) := (HN.out.cell 0).trans rfl
            have z := HN.out.free 0
            gi_wp2_with (refine ⟨trivial, ?_⟩; gi_at_call 114; refine (CallsIn.inRound lp (callsIn_wide.2 c3.out)).mono ?_; rintro e w4 ⟨rfl, hb4⟩; have y4 := (hb4.cell (p := ⟨W.heap.size + 1, 0, none⟩) hn1).trans y; have z4 := (hb4.frozen (p := ⟨W.heap.size + 1, 0, none⟩) hn1).trans z)
            go_roundw
            case rel => exact ⟨0 + 1, by omega, by go_num, (HN.out.below hb4).set 0 _, below_setc (HB.out.trans (hb4.mono (by omega))) (Nat.le_refl _) _ _⟩
            case measure => simp [intOf]
          · have c3 := c3 k.ll _ wr f8 f5
            have y : wr.cell? ⟨W.heap.size + 1, 1, none⟩ = some (.int .i64 0) := (HN.out.cell 1).trans rfl
            have z := HN.out.free 1
            gi_wp2_with (refine ⟨trivial, ?_⟩; gi_at_call 114; refine (CallsIn.inRound lp (callsIn_wide.2 c3.out)).mono ?_; rintro e w4 ⟨rfl, hb4⟩; have y4 := (hb4.cell (p := ⟨W.heap.size + 1, 1, none⟩) hn1).trans y; have z4 := (hb4.frozen (p := ⟨W.heap.size + 1, 1, none⟩) hn1).trans z)
            go_roundw
            case rel => exact ⟨1 + 1, by omega, by go_num, (HN.out.below hb4).set 1 _, below_setc (HB.out.trans (hb4.mono (by omega))) (Nat.le_refl _) _ _⟩
            case measure => simp [intOf]
          · have c3 := c3 k.lh _ wr f9 f6
            have y : wr.cell? ⟨W.heap.size + 1, 2, none⟩ = some (.int .i64 0) := (HN.out.cell 2).trans rfl
            have z := HN.out.free 2
            gi_wp2_with (refine ⟨trivial, ?_⟩; gi_at_call 114; refine (CallsIn.inRound lp (callsIn_wide.2 c3.out)).mono ?_; rintro e w4 ⟨rfl, hb4⟩; have y4 := (hb4.cell (p := ⟨W.heap.size + 1, 2, none⟩) hn1).trans y; have z4 := (hb4.frozen (p := ⟨W.heap.size + 1, 2, none⟩) hn1).trans z)
            go_roundw
            case rel => exact ⟨2 + 1, by omega, by go_num, (HN.out.below hb4).set 2 _, below_setc (HB.out.trans (hb4.mono (by omega))) (Nat.le_refl _) _ _⟩
            case measure => simp [intOf]
          · have y0 : wr.cell? ⟨W.heap.size + 1, 0, none⟩ = some (.int .i64 (dnum k.lk : Int)) := (HN.out.cell 0).trans rfl
            have y1 : wr.cell? ⟨W.heap.size + 1, 1, none⟩ = some (.int .i64 (dnum k.ll : Int)) := (HN.out.cell 1).trans rfl
            have y2 : wr.cell? ⟨W.heap.size + 1, 2, none⟩ = some (.int .i64 (dnum k.lh : Int)) := (HN.out.cell 2).trans rfl
            have x4 : wr.cell? ⟨W.heap.size, 4, none⟩ = some (.string (bs k.dflt)) := (hbw'.cell 4).trans rfl
            have x5 : wr.cell? ⟨W.heap.size, 5, none⟩ = some (.string (bs k.no)) := (hbw'.cell 5).trans rfl
            have x6 : wr.cell? ⟨W.heap.size, 6, none⟩ = some (.string (bs k.lo)) := (hbw'.cell 6).trans rfl
            have x0 : wr.cell? ⟨w.heap.size, 0, none⟩ = some (.string (bs k.name)) := (HB.out.cell (p := ⟨w.heap.size, 0, none⟩) (by simp only; omega)).trans ((hbW.cell (p := ⟨w.heap.size, 0, none⟩) hp0).trans p0)
            have q0 : w.heap.size < wr.heap.size := by omega
            have q1 : W.heap.size < wr.heap.size := by omega
            gi_wp2
            refine region_plan 19 20 { tmps := #[.string (bs k.name), .pointer (some ⟨w.heap.size, 0, none⟩), .pointer (some ⟨w.heap.size + 1, 0, none⟩), .pointer (some ⟨w.heap.size + 2, 0, none⟩), .string (bs k.text), .slice (some ⟨W.heap.size, 0, none⟩) 7 7, .pointer (some ⟨W.heap.size + 1, 0, none⟩), u7, .pointer (some ⟨wr.heap.size, 0, none⟩), .func (.func 176) #[] #[.pointer (some ⟨b + 1, 0, none⟩), .pointer (some ⟨b, 0, none⟩), .pointer (some ⟨b + 2, 0, none⟩)], .string (bs k.text), .string (bs k.text), .slice (some ⟨W.heap.size, 0, none⟩) 7 7, .slice (some ⟨W.heap.size, 0, none⟩) 7 7, .pointer (some ⟨W.heap.size, 0, none⟩), .string (bs k.name), .string (bs k.name), .bool false, .int .i64 ((3 : Nat) : Int), .bool false, u20, u21, u22, u23, u24, u25, u26, u27, u28, u29, u30, u31, u32, .string (bs k.name), .pointer (some ⟨W.heap.size + 1, 0, none⟩), .int .i64 (dnum k.lk : Int), .pointer (some ⟨W.heap.size + 1, 1, none⟩), .int .i64 (dnum k.ll : Int), .pointer (some ⟨W.heap.size + 1, 2, none⟩), .int .i64 (dnum k.lh : Int), .slice (some ⟨W.heap.size, 0, none⟩) 7 7, .pointer (some ⟨W.heap.size, 4, none⟩), .string (bs k.dflt), .slice (some ⟨W.heap.size, 0, none⟩) 7 7, .pointer (some ⟨W.heap.size, 5, none⟩), .string (bs k.no), .bool (k.no == [78]), .slice (some ⟨W.heap.size, 0, none⟩) 7 7, .pointer (some ⟨W.heap.size, 6, none⟩), .string (bs k.lo), .bool (k.lo == [76]), .agg #[.string (bs k.name), .int .i64 (dnum k.lk : Int), .int .i64 (dnum k.ll : Int), .int .i64 (dnum k.lh : Int), .string (bs k.dflt), .bool (k.no == [78]), .bool (k.lo == [76])], undef, undef, undef, undef, undef, undef, undef], defers := [] } (wr.drew.alloc (.cells #[.string ⟨#[]⟩, .int .i64 0, .int .i64 0, .int .i64 0, .string ⟨#[]⟩, .bool false, .bool false] 125)) hmx (by kernel_rfl) (by omega) (by decide) rfl rfl rfl ?ag ?each ?go
            case ag => simp [Agree, writes]
            case each =>
              simp [EachOp, go_sem, Oper.about, x0, x4, x5, x6, y0, y1, y2, q0, q1, hn1]
            case go =>
              have hB2 := hbW.size
              have hres : Blk wr (w.heap.size + 1) 125 zero7 := (HB.out.block _ (by omega)).trans ((hbW.block _ (by omega)).trans i3)
              have herr : Blk wr (w.heap.size + 2) 39 #[.nilIface] := (HB.out.block _ (by omega)).trans ((hbW.block _ (by omega)).trans i4)
              have q2 : w.heap.size + 1 < wr.heap.size := by omega
              have q3 : w.heap.size + 2 < wr.heap.size := by omega
              have t0 : wr.cell? ⟨w.heap.size + 1, 0, none⟩ = some (.string (bs [])) := (hres.cell 0).trans rfl
              have t1 : wr.cell? ⟨w.heap.size + 1, 1, none⟩ = some (.int .i64 0) := (hres.cell 1).trans rfl
              have t2 : wr.cell? ⟨w.heap.size + 1, 2, none⟩ = some (.int .i64 0) := (hres.cell 2).trans rfl
              have t3 : wr.cell? ⟨w.heap.size + 1, 3, none⟩ = some (.int .i64 0) := (hres.cell 3).trans rfl
              have t4 : wr.cell? ⟨w.heap.size + 1, 4, none⟩ = some (.string (bs [])) := (hres.cell 4).trans rfl
              have t5 : wr.cell? ⟨w.heap.size + 1, 5, none⟩ = some (.bool false) := (hres.cell 5).trans rfl
              have t6 : wr.cell? ⟨w.heap.size + 1, 6, none⟩ = some (.bool false) := (hres.cell 6).trans rfl
              have t7 : wr.cell? ⟨w.heap.size + 2, 0, none⟩ = some .nilIface := (herr.cell 0).trans rfl
              have v0 := hres.free 0
              have v1 := hres.free 1
              have v2 := hres.free 2
              have v3 := hres.free 3
              have v4 := hres.free 4
              have v5 := hres.free 5
              have v6 := hres.free 6
              have v7 := herr.free 0
              have HR := hid hres
              have HE := hid herr
              clear hres herr
              by_cases hdf : k.dflt = [45]
              · have hde : (k.dflt == [45]) = true := by simpa using hdf
                rw [hdf]
                gi_wp2
                obtain ⟨n1, n2, n3, n4⟩ := of_end (B := w.heap.size) (.string (bs k.name)) (.int .i64 (dnum k.lk : Int)) (.int .i64 (dnum k.ll : Int)) (.int .i64 (dnum k.lh : Int)) (.string ⟨#[]⟩) (.bool (k.no == [78])) (.bool (k.lo == [76])) .nilIface .nilIface (.cells #[.string (bs k.name), .int .i64 (dnum k.lk : Int), .int .i64 (dnum k.ll : Int), .int .i64 (dnum k.lh : Int), .string ⟨#[]⟩, .bool (k.no == [78]), .bool (k.lo == [76])] 125) HR.out HE.out (by omega) (by omega) (by omega)
                have hbr : Below W.heap.size W wr := hbW.trans (HB.out.mono (by omega))
                refine ⟨(others_below hbr).trans n1, rfl, (i1.trans (hbr.mono hsW)).trans n2, ⟨k, Hf.out, ?_⟩, n4⟩
                have hcs : k.cells.toArray = #[.string (bs k.name), .int .i64 (dnum k.lk : Int), .int .i64 (dnum k.ll : Int), .int .i64 (dnum k.lh : Int), .string ⟨#[]⟩, .bool (k.no == [78]), .bool (k.lo == [76])] := by simp [KR.cells, KR.dv, hdf]; rfl
                rw [hcs]; exact n3
              · have hde : (k.dflt == [45]) = false := by simpa using hdf
                gi_wp2
                obtain ⟨n1, n2, n3, n4⟩ := of_end (B := w.heap.size) (.string (bs k.name)) (.int .i64 (dnum k.lk : Int)) (.int .i64 (dnum k.ll : Int)) (.int .i64 (dnum k.lh : Int)) (.string (bs k.dflt)) (.bool (k.no == [78])) (.bool (k.lo == [76])) .nilIface .nilIface (.cells #[.string (bs k.name), .int .i64 (dnum k.lk : Int), .int .i64 (dnum k.ll : Int), .int .i64 (dnum k.lh : Int), .string (bs k.dflt), .bool (k.no == [78]), .bool (k.lo == [76])] 125) HR.out HE.out (by omega) (by omega) (by omega)
                have hbr : Below W.heap.size W wr := hbW.trans (HB.out.mono (by omega))
                refine ⟨(others_below hbr).trans n1, rfl, (i1.trans (hbr.mono hsW)).trans n2, ⟨k, Hf.out, ?_⟩, n4⟩
                have hcs : k.cells.toArray = #[.string (bs k.name), .int .i64 (dnum k.lk : Int), .int .i64 (dnum k.ll : Int), .int .i64 (dnum k.lh : Int), .string (bs k.dflt), .bool (k.no == [78]), .bool (k.lo == [76])] := by simp [KR.cells, KR.dv, hdf]
                rw [hcs]; exact n3
    · have he : (k.name == name) = false := by simpa using hname
      gi_wp2_with (refine ⟨trivial, ?_⟩; gi_at_call 113; refine (CallsIn.inRound lp (callsIn_wide.2 c2.out)).mono ?_; rintro e w1 ⟨rfl, rfl⟩)
      refine region_reads { tmps := #[.string (bs name), .pointer (some ⟨w.heap.size, 0, none⟩), .pointer (some ⟨w.heap.size + 1, 0, none⟩), .pointer (some ⟨w.heap.size + 2, 0, none⟩), .string (bs k.text), .slice (some ⟨W.heap.size, 0, none⟩) 7 7, undef, undef, undef, .func (.func 176) #[] #[.pointer (some ⟨b + 1, 0, none⟩), .pointer (some ⟨b, 0, none⟩), .pointer (some ⟨b + 2, 0, none⟩)], .string (bs k.text), .string (bs k.text), .slice (some ⟨W.heap.size, 0, none⟩) 7 7, .slice (some ⟨W.heap.size, 0, none⟩) 7 7, .pointer (some ⟨W.heap.size, 0, none⟩), .string (bs k.name), .string (bs name), .bool true, undef, undef, undef, undef, undef, undef, undef, undef, undef, undef, undef, undef, undef, undef, undef, undef, undef, undef, undef, undef, undef, undef, undef, undef, undef, undef, undef, undef, undef, undef, undef, undef, undef, undef, undef, undef, undef, undef, undef, undef, undef], defers := [] } hmx (by kernel_rfl) rfl ?ag ?each ?go
      case ag => simp [Agree, writes]
      case each =>
        simp [EachOp, go_sem, Oper.about, he, p0, hp0]
      case go =>
        gi_wp2
        have hbW : Below W.heap.size W (W.alloc (.cells #[.string (bs k.name), .string (bs k.lk), .string (bs k.ll), .string (bs k.lh), .string (bs k.dflt), .string (bs k.no), .string (bs k.lo)] 9)).drew := ((Below.refl _ _).alloc (Nat.le_refl _) _).drew
        refine ⟨others_below hbW, kpB_below hbW i6, i1.trans (hbW.mono hsW), i2.below hbW, i3.below hbW, i4.below hbW, ?_, by simp; omega⟩
        rw [List.length_append, List.length_singleton]
        obtain ⟨h1, h2⟩ := List.getElem?_eq_some_iff.1 hk
        rw [List.take_succ_eq_append_getElem h1, h2]
        intro x hx
        rcases List.mem_append.1 hx with hx | hx
        · exact i5 x hx
        · rw [List.mem_singleton.1 hx]; exact hname
  case done =>
    rintro D W hD ⟨i1, i2, i3, i4, i5, i6⟩ hK
    have t0 : W.cell? ⟨w.heap.size + 1, 0, none⟩ = some (.string (bs [])) := (i3.cell 0).trans rfl
    have t1 : W.cell? ⟨w.heap.size + 1, 1, none⟩ = some (.int .i64 0) := (i3.cell 1).trans rfl
    have t2 : W.cell? ⟨w.heap.size + 1, 2, none⟩ = some (.int .i64 0) := (i3.cell 2).trans rfl
    have t3 : W.cell? ⟨w.heap.size + 1, 3, none⟩ = some (.int .i64 0) := (i3.cell 3).trans rfl
    have t4 : W.cell? ⟨w.heap.size + 1, 4, none⟩ = some (.string (bs [])) := (i3.cell 4).trans rfl
    have t5 : W.cell? ⟨w.heap.size + 1, 5, none⟩ = some (.bool false) := (i3.cell 5).trans rfl
    have t6 : W.cell? ⟨w.heap.size + 1, 6, none⟩ = some (.bool false) := (i3.cell 6).trans rfl
    have t7 : W.cell? ⟨w.heap.size + 2, 0, none⟩ = some .nilIface := (i4.cell 0).trans rfl
    have v0 := i3.free 0
    have v1 := i3.free 1
    have v2 := i3.free 2
    have v3 := i3.free 3
    have v4 := i3.free 4
    have v5 := i3.free 5
    have v6 := i3.free 6
    have v7 := i4.free 0
    gi_wp2
    obtain ⟨W6, hW6, n1, n2, n3, n4⟩ := of_end0 (B := w.heap.size) (.string ⟨#[]⟩) (.int .i64 0) (.int .i64 0) (.int .i64 0) (.string ⟨#[]⟩) (.bool false) (.bool false) (.iface 32 (.int .i64 5)) .nilIface _ i3 i4 hK rfl (by omega) (by omega) (by omega)
    rw [hW6]
    refine ⟨by simp, .inl ⟨_, _, rfl, run_takeDeferred n1, ?_⟩⟩
    have s0 : ∀ o', (W6.putObj D o').cell? ⟨w.heap.size + 1, 0, none⟩ = some (.string (bs [])) := fun o' => ((blk_put n3 n1 rfl o').cell 0).trans rfl
    have s1 : ∀ o', (W6.putObj D o').cell? ⟨w.heap.size + 1, 1, none⟩ = some (.int .i64 0) := fun o' => ((blk_put n3 n1 rfl o').cell 1).trans rfl
    have s2 : ∀ o', (W6.putObj D o').cell? ⟨w.heap.size + 1, 2, none⟩ = some (.int .i64 0) := fun o' => ((blk_put n3 n1 rfl o').cell 2).trans rfl
    have s3 : ∀ o', (W6.putObj D o').cell? ⟨w.heap.size + 1, 3, none⟩ = some (.int .i64 0) := fun o' => ((blk_put n3 n1 rfl o').cell 3).trans rfl
    have s4 : ∀ o', (W6.putObj D o').cell? ⟨w.heap.size + 1, 4, none⟩ = some (.string (bs [])) := fun o' => ((blk_put n3 n1 rfl o').cell 4).trans rfl
    have s5 : ∀ o', (W6.putObj D o').cell? ⟨w.heap.size + 1, 5, none⟩ = some (.bool false) := fun o' => ((blk_put n3 n1 rfl o').cell 5).trans rfl
    have s6 : ∀ o', (W6.putObj D o').cell? ⟨w.heap.size + 1, 6, none⟩ = some (.bool false) := fun o' => ((blk_put n3 n1 rfl o').cell 6).trans rfl
    have s7 : ∀ o', (W6.putObj D o').cell? ⟨w.heap.size + 1 + 1, 0, none⟩ = some (.iface 32 (.int .i64 5)) := fun o' => ((blk_put n4 n1 rfl o').cell 0).trans rfl
    refine ⟨.tuple #[.agg #[.string (bs []), .int .i64 0, .int .i64 0, .int .i64 0, .string (bs []), .bool false, .bool false], .iface 32 (.int .i64 5)], by simp [results, Tryz.results72, go_sem, s0, s1, s2, s3, s4, s5, s6, s7], ?_, ?_⟩
    · rw [findK_none (name := name) (by rw [splitKeys, List.length_map, List.take_length] at i5; exact i5)]; rfl
    · exact below_put (i1.trans n2) (by omega) _
  case stop =>
    rintro D j pre W hD ⟨rfl, i2, ⟨k, hk, i3⟩, i4⟩ hK
    gi_wp2
    refine ⟨by simp, .inl ⟨_, _, rfl, run_takeDeferred hK, ?_⟩⟩
    have s0 : ∀ o', (W.putObj D o').cell? ⟨w.heap.size + 1, 0, none⟩ = some (.string (bs k.name)) := fun o' => ((blk_put i3 hK rfl o').cell 0).trans rfl
    have s1 : ∀ o', (W.putObj D o').cell? ⟨w.heap.size + 1, 1, none⟩ = some (.int .i64 (dnum k.lk : Int)) := fun o' => ((blk_put i3 hK rfl o').cell 1).trans rfl
    have s2 : ∀ o', (W.putObj D o').cell? ⟨w.heap.size + 1, 2, none⟩ = some (.int .i64 (dnum k.ll : Int)) := fun o' => ((blk_put i3 hK rfl o').cell 2).trans rfl
    have s3 : ∀ o', (W.putObj D o').cell? ⟨w.heap.size + 1, 3, none⟩ = some (.int .i64 (dnum k.lh : Int)) := fun o' => ((blk_put i3 hK rfl o').cell 3).trans rfl
    have s4 : ∀ o', (W.putObj D o').cell? ⟨w.heap.size + 1, 4, none⟩ = some (.string (bs k.dv)) := fun o' => ((blk_put i3 hK rfl o').cell 4).trans rfl
    have s5 : ∀ o', (W.putObj D o').cell? ⟨w.heap.size + 1, 5, none⟩ = some (.bool (k.no == [78])) := fun o' => ((blk_put i3 hK rfl o').cell 5).trans rfl
    have s6 : ∀ o', (W.putObj D o').cell? ⟨w.heap.size + 1, 6, none⟩ = some (.bool (k.lo == [76])) := fun o' => ((blk_put i3 hK rfl o').cell 6).trans rfl
    have s7 : ∀ o', (W.putObj D o').cell? ⟨w.heap.size + 1 + 1, 0, none⟩ = some .nilIface := fun o' => ((blk_put i4 hK rfl o').cell 0).trans rfl
    refine ⟨.tuple #[.agg k.cells.toArray, .nilIface], by simp [results, Tryz.results72, go_sem, s0, s1, s2, s3, s4, s5, s6, s7, KR.cells], ?_, ?_⟩
    · rw [hk]; rfl
    · exact below_put i2 (by omega) _
end Go.Proofs.YtbimlijhgeajjaaGreatDoor
