/- The walk of the law GatherPlays: it returns true. -/
import Derived.Test.YtbbnnhaboegedaaDoorGather
import Derived.Test.YtbbnnhaboegedaaDoorEqualPairs
import Derived.Test.YtbbnnhaboegedaaDoorPairsParsesLaw
import Derived.Test.YtbbnnhaboegedaaDoorCardBase
import Derived.Deep.RegionHeld3
namespace Go.Proofs.YtbbnnhaboegedaaDoor
open Go.RowKit
set_option linter.unusedVariables false
set_option maxRecDepth 100000
/-! ### slices of a struct of two one-cell fields -/
def cells2 {α : Type} (F G : α → Value) (xs : List α) : List Value := xs.flatMap fun x => [F x, G x]
theorem cells2_length {α : Type} (F G : α → Value) (xs : List α) : (cells2 F G xs).length = xs.length * 2 := by
  induction xs with
  | nil => rfl
  | cons x xs ih => simp only [cells2, List.flatMap_cons, List.length_append, List.length_cons, List.length_nil] at ih ⊢; omega
theorem cells2_at {α : Type} (F G : α → Value) (d : α) (xs : List α) (k : Nat) (h : k < xs.length) : (cells2 F G xs)[2 * k]? = some (F (xs.getD k d)) ∧ (cells2 F G xs)[2 * k + 1]? = some (G (xs.getD k d)) := by
  induction xs generalizing k with
  | nil => simp at h
  | cons x xs ih =>
    cases k with
    | zero => simp [cells2]
    | succ k =>
      have := ih k (by simpa using h)
      have e : cells2 F G (x :: xs) = F x :: G x :: cells2 F G xs := rfl
      rw [e]
      simp only [show 2 * (k + 1) = 2 * k + 1 + 1 by omega, List.getElem?_cons_succ, List.getD_cons_succ]
      exact this
theorem sl2_open {α : Type} {F G : α → Value} (d : α) {w : World} {v : Value} {l : List α} (h : Sl w v 2 l.length (cells2 F G l)) : (l = [] ∧ ∃ a c, v = .slice a 0 c) ∨
    (0 < l.length ∧ ∃ b o c, v = .slice (some ⟨b, o, none⟩) l.length c ∧ b < w.heap.size ∧ ∀ k, k < l.length → w.cell? ⟨b, o + k * 2, none⟩ = some (F (l.getD k d)) ∧ w.cell? ⟨b, o + k * 2 + 1, none⟩ = some (G (l.getD k d))) := by
  obtain ⟨a, c, rfl, hl, hc⟩ := h
  by_cases h0 : l.length = 0
  · exact .inl ⟨List.eq_nil_of_length_eq_zero h0, a, c, by rw [h0]⟩
  · obtain ⟨b, o, rfl, hd⟩ := hc.resolve_left h0
    have hcell : ∀ k, k < l.length → w.cell? ⟨b, o + k * 2, none⟩ = some (F (l.getD k d)) ∧ w.cell? ⟨b, o + k * 2 + 1, none⟩ = some (G (l.getD k d)) := by
      intro k hk
      obtain ⟨e1, e2⟩ := cells2_at F G d l k hk
      have a := hd _ _ e1; have b := hd _ _ e2
      simp only [Nat.mul_comm k 2, Nat.add_assoc]
      exact ⟨a, b⟩
    exact .inr ⟨by omega, b, o, c, rfl, block_lt_of_cell (hcell 0 (by omega)).1, hcell⟩
/-- a slice that is handed in, whose cells are known one by one -/
theorem sl2_of_cells {α : Type} {F G : α → Value} {W : World} {a : Addr} {len cap : Nat} (X : Nat → α) (h : ∀ k, k < len → W.cell? (a.add (k * 2)) = some (F (X k)) ∧ W.cell? (a.add (k * 2 + 1)) = some (G (X k))) :
    Sl W (.slice (some a) len cap) 2 ((List.range len).map X).length (cells2 F G ((List.range len).map X)) := by
  refine ⟨some a, cap, by simp, by rw [cells2_length], ?_⟩
  by_cases h0 : len = 0
  · left; simp [h0]
  · right
    obtain ⟨ab, ao, asp⟩ := a
    have hsp : asp = none := by simpa [Addr.add] using World.cell?_spot (h 0 (by omega)).1
    subst hsp
    refine ⟨ab, ao, rfl, fun j u hu => ?_⟩
    have hj : j < len * 2 := by
      have := (List.getElem?_eq_some_iff.1 hu).1
      rw [cells2_length] at this; simpa using this
    have key : ∀ k, k < len → ((List.range len).map X).getD k (X 0) = X k := by
      intro k hk; rw [List.getD, List.getElem?_map, List.getElem?_range hk]; rfl
    rcases Nat.mod_two_eq_zero_or_one j with hm2 | hm2
    · obtain ⟨k, rfl⟩ : ∃ k, j = 2 * k := ⟨j / 2, by omega⟩
      have := (cells2_at F G (X 0) ((List.range len).map X) k (by simp; omega)).1
      rw [key k (by omega)] at this
      rw [this] at hu
      cases hu
      have g := (h k (by omega)).1
      rw [show (⟨ab, ao, none⟩ : Addr).add (k * 2) = ⟨ab, ao + 2 * k, none⟩ by unfold Addr.add; split <;> simp <;> omega] at g
      exact g
    · obtain ⟨k, rfl⟩ : ∃ k, j = 2 * k + 1 := ⟨j / 2, by omega⟩
      have := (cells2_at F G (X 0) ((List.range len).map X) k (by simp; omega)).2
      rw [key k (by omega)] at this
      rw [this] at hu
      cases hu
      have g := (h k (by omega)).2
      rw [show (⟨ab, ao, none⟩ : Addr).add (k * 2 + 1) = ⟨ab, ao + (2 * k + 1), none⟩ by unfold Addr.add; rw [if_neg (by omega)]; simp; omega] at g
      exact g
/-! ### the parts -/
def partF (x : List UInt8 × Bool) : Value := .string (bs x.1)
def partG (x : List UInt8 × Bool) : Value := .bool x.2
def boolB : Value → Bool | .bool b => b | _ => false
def PtSl (w : World) (v : Value) (l : List (List UInt8 × Bool)) : Prop := Sl w v 2 l.length (cells2 partF partG l)
def PtBd (l : List (List UInt8 × Bool)) : Prop := l.length ≤ 9223372036854775807 ∧ ∀ k, (l.getD k ([], false)).1.length ≤ 140737488355328
theorem gNew_any (m : Int) (w : World) :
    Calls Tryd.prog 25 #[.int .i64 m] w fun e w' => if m < 0 ∨ 20000 < m then e = .returned (.tuple #[.pointer none, .iface 26 (.int .i64 2)]) ∧ w' = w else
      e = .returned (.tuple #[.pointer (some ⟨w.heap.size, 0, none⟩), .nilIface]) ∧ w' = w.alloc (.cells #[.string ⟨#[]⟩, .int .i64 m] 107) := by
  by_cases h : m < 0 ∨ 20000 < m
  · simp only [if_pos h]
    by_cases h0 : m < 0
    · clear h
      go_enter Tryd.func25, Tryd.ntmps25
      go_wp2
      go_ret2
      exact ⟨rfl, rfl⟩
    · have h1 : 20000 < m := by omega
      clear h
      go_enter Tryd.func25, Tryd.ntmps25
      go_wp2
      go_ret2
      exact ⟨rfl, rfl⟩
  · simp only [if_neg h]
    have h0 : ¬ m < 0 := by omega
    have h1 : ¬ 20000 < m := by omega
    clear h
    go_enter Tryd.func25, Tryd.ntmps25
    go_wp2
    go_ret2
    exact ⟨rfl, rfl⟩
theorem gSize_any (g m : Nat) (t : List UInt8) (w : World) (h0 : w.cell? ⟨g, 0, none⟩ = some (.string (bs t))) :
    Calls Tryd.prog 29 #[.pointer (some ⟨g, 0, none⟩)] w fun e w' => e = .returned (.int .i64 (t.length : Nat)) ∧ w' = w := by
  go_enter Tryd.func29, Tryd.ntmps29
  go_wp2
  go_ret
  exact ⟨rfl, rfl⟩
theorem gStep_len (m : Nat) (t s : List UInt8) (more : Bool) : (gStep m t s more).2.1.length ≤ 60 := by
  unfold gStep
  split
  · simp
  · split
    · simp
    · have := parseP_len ((t ++ s).length + 1) (t ++ s) 0 (by omega)
      simp only
      split
      · omega
      · simp
def RPartN (n : Nat) (w : World) (sum i : Value) (wr : World) : Prop :=
  ∃ (k : Nat) (m : Int), k ≤ n ∧ i = .int .i64 (k : Nat) ∧ sum = .int .i64 m ∧ Below w.heap.size w wr
def RGp (n m gx gr : Nat) (w1 : World) (i : Value) (wr : World) : Prop :=
  ∃ (k : Nat) (t : List UInt8), k ≤ n ∧ i = .int .i64 (k : Nat) ∧ t.length ≤ m ∧ Blk wr gx 107 #[.string (bs t), .int .i64 (m : Nat)] ∧ Blk wr gr 57 #[.string (bs t), .int .i64 (m : Nat)] ∧ Below w1.heap.size w1 wr
set_option maxHeartbeats 4000000 in
theorem gatherPlays_law (m : Int) (v : Value) (l : List (List UInt8 × Bool)) (w : World) (h : PtSl w v l) (hbd : PtBd l) (hg : EType w) :
    Calls Tryd.prog 6 #[.int .i64 m, v] w fun e w' => e = .returned (.bool true) ∧ Below w.heap.size w w' := by
  obtain ⟨hn, hlen⟩ := hbd
  have c1 := fun w => hid (gNew_any m w)
  have Hlen := hid hlen; clear hlen
  have hgl := hg.lt
  obtain ⟨A, c, rfl, hA⟩ : ∃ A c, v = .slice A l.length c ∧ (l.length = 0 ∨ ∃ b o, A = some ⟨b, o, none⟩ ∧ b < w.heap.size ∧ ∀ k, k < l.length → w.cell? ⟨b, o + k * 2, none⟩ = some (.string (bs (l.getD k ([], false)).1)) ∧ w.cell? ⟨b, o + k * 2 + 1, none⟩ = some (.bool (l.getD k ([], false)).2)) := by
    rcases sl2_open ([], false) h with ⟨rfl, a, c, rfl⟩ | ⟨h0, b, o, c, rfl, hbl, hcell⟩
    · exact ⟨a, c, rfl, .inl rfl⟩
    · exact ⟨_, c, rfl, .inr ⟨b, o, rfl, hbl, hcell⟩⟩
  have HA := hid hA; clear hA
  · clear h
    go_enter Tryd.func6, Tryd.ntmps6
    go_wp2
    go_loopw [5, 19] (fun sum i wr => RPartN l.length w sum i wr) (fun _ i _ => l.length - (intOf i).toNat)
    case atStart => exact ⟨0, _, by omega, rfl, rfl, Below.refl _ _⟩
    case round =>
      obtain ⟨k, n, hk, rfl, rfl, hb⟩ := hrel
      have hB := hb.size
      by_cases hlt : k < l.length
      · obtain ⟨b, o, rfl, hbl, hcell⟩ := HA.out.resolve_left (by omega)
        obtain ⟨c0, c1'⟩ := hcell k hlt
        clear hcell HA
        have g0 := (hb.cell (p := ⟨b, o + k * 2, none⟩) hbl).trans c0
        have g1 := (hb.cell (p := ⟨b, o + k * 2 + 1, none⟩) hbl).trans c1'
        have hd0 := Hlen.out k
        clear c0 c1'
        generalize l.getD k ([], false) = x at *
        obtain ⟨x1, x2⟩ := x
        simp only at *
        go_wp2
        go_roundw
        case rel => exact ⟨k + 1, _, by omega, by go_num, rfl, hb.alloc hB _⟩
        case measure => simp [intOf]; omega
      · by_cases h3 : 3000 < n
        · go_wp2_with fail
          go_ret
          exact ⟨rfl, hb⟩
        · have c1 := c1 wr
          by_cases hm : m < 0 ∨ 20000 < m
          · simp only [if_pos hm] at c1
            have hbare := fun w1 (hb : Below w.heap.size w w1) => hid (bare_ok (.iface 26 (.int .i64 ((2 : Nat) : Int))) 2 w1 (hg.below hb) (.bare 2 (by omega)))
            by_cases hm0 : m < 0
            · clear hm
              go_wp2_with fail
              refine c1.out.mono ?_; rintro e w1 ⟨rfl, rfl⟩
              go_wp2_with fail
              refine (hbare _ hb).out.mono ?_; rintro e w2 ⟨rfl, hb2⟩
              go_wp2_with fail
              go_ret
              exact ⟨rfl, hb.trans (hb2.mono hB)⟩
            · have hm1 : 20000 < m := by omega
              clear hm
              go_wp2_with fail
              refine c1.out.mono ?_; rintro e w1 ⟨rfl, rfl⟩
              go_wp2_with fail
              refine (hbare _ hb).out.mono ?_; rintro e w2 ⟨rfl, hb2⟩
              go_wp2_with fail
              go_ret
              exact ⟨rfl, hb.trans (hb2.mono hB)⟩
          · simp only [if_neg hm] at c1
            obtain ⟨m, rfl⟩ : ∃ q : Nat, m = (q : Int) := ⟨m.toNat, by omega⟩
            have hm0 : ¬ (m : Int) < 0 := by omega
            have hm1 : ¬ 20000 < (m : Int) := by omega
            have hmN : m ≤ 20000 := by omega
            clear hm
            go_wp2_with fail
            refine c1.out.mono ?_; rintro e w1 ⟨rfl, rfl⟩
            go_wp2_with fail
            have hX := Blk.new wr 107 #[.string (bs []), .int .i64 (m : Nat)]
            have hR := Blk.new (wr.alloc (.cells #[.string (bs []), .int .i64 (m : Nat)] 107)) 57 #[.string (bs []), .int .i64 (m : Nat)]
            have hX2 := hX.below ((Below.refl _ _).alloc (Nat.le_refl _) (.cells #[.string (bs []), .int .i64 (m : Nat)] 57))
            have hE : (wr.alloc (.cells #[.string (bs []), .int .i64 (m : Nat)] 107)).heap.size = wr.heap.size + 1 := by simp
            have hb2 := (hb.alloc hB (.cells #[.string (bs []), .int .i64 (m : Nat)] 107)).alloc (by rw [hE]; omega) (.cells #[.string (bs []), .int .i64 (m : Nat)] 57)
            rw [hE] at hR
            clear hE hX c1
            change Code.wp _ _ _ _ ((wr.alloc (.cells #[.string (bs []), .int .i64 (m : Nat)] 107)).alloc (.cells #[.string (bs []), .int .i64 (m : Nat)] 57))
            generalize ((wr.alloc (.cells #[.string (bs []), .int .i64 (m : Nat)] 107)).alloc (.cells #[.string (bs []), .int .i64 (m : Nat)] 57)) = w2 at *
            have hx0 : w.heap.size ≤ wr.heap.size := hB
            have hr0 : w.heap.size ≤ wr.heap.size + 1 := by omega
            have hxr : wr.heap.size ≠ wr.heap.size + 1 := by omega
            clear hb hB
            generalize wr.heap.size + 1 = gr at *
            generalize wr.heap.size = gx at *
            go_loopw [60] (fun i wr => RGp l.length m gx gr w i wr) (fun i _ => l.length - (intOf i).toNat)
            case atStart => exact ⟨0, [], by omega, rfl, by simp, hX2, hR, hb2⟩
            case round =>
              clear hX2 hR hb2
              obtain ⟨k, t, hk, rfl, ht, hX, hR, hb⟩ := hrel
              have hB := hb.size
              by_cases hlt : k < l.length
              · obtain ⟨b, o, rfl, hbl, hcell⟩ := HA.out.resolve_left (by omega)
                obtain ⟨c0, c1'⟩ := hcell k hlt
                clear hcell HA
                have g0 := (hb.cell (p := ⟨b, o + k * 2, none⟩) hbl).trans c0
                have g1 := (hb.cell (p := ⟨b, o + k * 2 + 1, none⟩) hbl).trans c1'
                have hd0 := Hlen.out k
                clear c0 c1'
                generalize l.getD k ([], false) = x at *
                obtain ⟨s, more⟩ := x
                simp only at *
                have hpw : wr.heap.size ≠ gr := by have := hR.lt; omega
                have hgxw := hX.lt
                have hgrw := hR.lt
                have hbA := hb.alloc hB (.cells #[.string (bs s), .bool more] 50)
                have hbA0 := (Below.refl wr.heap.size wr).alloc (Nat.le_refl _) (.cells #[.string (bs s), .bool more] 50)
                have c2 := hid (rgAdd_any gr m t s more _ (hR.below hbA0) hmN ht (by omega))
                have hP := Blk.new wr 50 #[.string (bs s), .bool more]
                have hXA := hX.below hbA0
                have hpA : wr.heap.size < (wr.alloc (.cells #[.string (bs s), .bool more] 50)).heap.size := by simp
                unfold RAddPost at c2
                have hst := gStep_le m t s more
                have hxl := gStep_len m t s more
                have c3 := fun w1 h1 h2 h3 => hid (gAdd_any gx m t s more w1 h1 hmN ht (by omega) h2 h3)
                unfold GAddPost at c3
                generalize gStep m t s more = R at *
                obtain ⟨t2, xs, ek, pl⟩ := R
                simp only at *
                go_wp2_with fail
                refine c2.out.mono ?_; rintro e wb ⟨⟨v1, rfl, hv1, hf1⟩, hR1, hO1⟩
                have hP1 := hP.only hO1 hpw
                have hX1 := hXA.only hO1 hxr
                have hbB := below_only hbA hO1 hr0 hbA.size
                have hf1 : FreshV wr.heap.size v1 := fun a n c h => Nat.le_trans (Nat.le_of_lt hpA) (hf1 a n c h)
                have hpB : wr.heap.size < wb.heap.size := Nat.lt_of_lt_of_le hpA hO1.size
                generalize hpe : wr.heap.size = pb at *
                clear c2 hP hXA hpA hbA hbA0 hO1 hpe g0 g1 hX hR hb hB
                have p0 : wb.cell? ⟨pb, 0, none⟩ = some (.string (bs s)) := hP1.cell 0
                have p1 : wb.cell? ⟨pb, 1, none⟩ = some (.bool more) := hP1.cell 1
                have hbC0 := (Below.refl wb.heap.size wb).alloc (Nat.le_refl _) (.cells #[.int .i64 ek, .int .i64 pl] 28)
                have hbC := hbB.alloc hbB.size (.cells #[.int .i64 ek, .int .i64 pl] 28)
                have hF := Blk.new wb 28 #[.int .i64 ek, .int .i64 pl]
                have hfx : wb.heap.size ≠ gx := by omega
                have c3 := c3 _ (hX1.below hbC0) (hg.below hbC) (by omega)
                go_wp2_with fail
                refine c3.out.mono ?_; rintro e wd ⟨⟨v2, er, rfl, her, hv2⟩, hX2, hO2⟩
                have hF2 := hF.only hO2 hfx
                have hR2 := (hR1.below hbC0).only hO2 (fun e => hxr e.symm)
                have hv1' := (hv1.below hbC0).only hf1 hO2 hgxw
                have hbD := below_only hbC hO2 hx0 hbC.size
                have hfD : wb.heap.size < wd.heap.size := hF2.lt
                generalize wb.heap.size = fb at *
                clear c3 hF hbC0 hbC hX1 hR1 hv1 hP1 p0 p1 hO2 hbB
                have q0 : wd.cell? ⟨fb, 0, none⟩ = some (.int .i64 ek) := hF2.cell 0
                have q1 : wd.cell? ⟨fb, 1, none⟩ = some (.int .i64 pl) := hF2.cell 1
                have q2 : wd.cell? ⟨gr, 0, none⟩ = some (.string (bs t2)) := hR2.cell 0
                have q3 : wd.cell? ⟨gx, 0, none⟩ = some (.string (bs t2)) := hX2.cell 0
                have hgrD := hR2.lt
                have hgxD := hX2.lt
                have keepB : ∀ (w' w'' : World), (w'.cell? ⟨fb, 0, none⟩ = some (.int .i64 ek) ∧ w'.cell? ⟨fb, 1, none⟩ = some (.int .i64 pl) ∧ w'.cell? ⟨gr, 0, none⟩ = some (.string (bs t2)) ∧ w'.cell? ⟨gx, 0, none⟩ = some (.string (bs t2)) ∧ Below wd.heap.size wd w') → Below w'.heap.size w' w'' → (w''.cell? ⟨fb, 0, none⟩ = some (.int .i64 ek) ∧ w''.cell? ⟨fb, 1, none⟩ = some (.int .i64 pl) ∧ w''.cell? ⟨gr, 0, none⟩ = some (.string (bs t2)) ∧ w''.cell? ⟨gx, 0, none⟩ = some (.string (bs t2)) ∧ Below wd.heap.size wd w'') := by
                  rintro w' w'' ⟨h0, h1, h2, h3, h4⟩ hb
                  have hs := h4.size
                  exact ⟨(hb.cell (p := ⟨fb, 0, none⟩) (Nat.lt_of_lt_of_le hfD hs)).trans h0, (hb.cell (p := ⟨fb, 1, none⟩) (Nat.lt_of_lt_of_le hfD hs)).trans h1, (hb.cell (p := ⟨gr, 0, none⟩) (Nat.lt_of_lt_of_le hgrD hs)).trans h2, (hb.cell (p := ⟨gx, 0, none⟩) (Nat.lt_of_lt_of_le hgxD hs)).trans h3, h4.trans (hb.mono h4.size)⟩
                have dp : ∀ (w' : World), (w'.cell? ⟨fb, 0, none⟩ = some (.int .i64 ek) ∧ w'.cell? ⟨fb, 1, none⟩ = some (.int .i64 pl) ∧ w'.cell? ⟨gr, 0, none⟩ = some (.string (bs t2)) ∧ w'.cell? ⟨gx, 0, none⟩ = some (.string (bs t2)) ∧ Below wd.heap.size wd w') → Hid (Calls Tryd.prog 15 #[er, .agg #[.int .i64 (ek : Int), .int .i64 pl]] w' fun e w'' => e = .returned (.bool true) ∧ (w''.cell? ⟨fb, 0, none⟩ = some (.int .i64 ek) ∧ w''.cell? ⟨fb, 1, none⟩ = some (.int .i64 pl) ∧ w''.cell? ⟨gr, 0, none⟩ = some (.string (bs t2)) ∧ w''.cell? ⟨gx, 0, none⟩ = some (.string (bs t2)) ∧ Below wd.heap.size wd w'')) := by
                  intro w' hS
                  refine hid ((placed_ok er ek pl w' (hg.below (hbD.trans (hS.2.2.2.2.mono hbD.size))) (her.below hS.2.2.2.2)).mono ?_)
                  rintro e w'' ⟨rfl, hb⟩
                  exact ⟨rfl, keepB _ _ hS hb⟩
                have de : ∀ (w' : World), (w'.cell? ⟨fb, 0, none⟩ = some (.int .i64 ek) ∧ w'.cell? ⟨fb, 1, none⟩ = some (.int .i64 pl) ∧ w'.cell? ⟨gr, 0, none⟩ = some (.string (bs t2)) ∧ w'.cell? ⟨gx, 0, none⟩ = some (.string (bs t2)) ∧ Below wd.heap.size wd w') → Hid (Calls Tryd.prog 24 #[v1, v2] w' fun e w'' => e = .returned (.bool true) ∧ (w''.cell? ⟨fb, 0, none⟩ = some (.int .i64 ek) ∧ w''.cell? ⟨fb, 1, none⟩ = some (.int .i64 pl) ∧ w''.cell? ⟨gr, 0, none⟩ = some (.string (bs t2)) ∧ w''.cell? ⟨gx, 0, none⟩ = some (.string (bs t2)) ∧ Below wd.heap.size wd w'')) := by
                  intro w' hS
                  refine hid ((eqPairs_true v1 v2 xs w' (by omega) (hv1'.below hS.2.2.2.2) (hv2.below hS.2.2.2.2)).mono ?_)
                  rintro e w'' ⟨rfl, hb⟩
                  exact ⟨rfl, keepB _ _ hS hb⟩
                have ds : ∀ (w' : World), (w'.cell? ⟨fb, 0, none⟩ = some (.int .i64 ek) ∧ w'.cell? ⟨fb, 1, none⟩ = some (.int .i64 pl) ∧ w'.cell? ⟨gr, 0, none⟩ = some (.string (bs t2)) ∧ w'.cell? ⟨gx, 0, none⟩ = some (.string (bs t2)) ∧ Below wd.heap.size wd w') → Hid (Calls Tryd.prog 29 #[.pointer (some ⟨gx, 0, none⟩)] w' fun e w'' => e = .returned (.int .i64 (t2.length : Nat)) ∧ (w''.cell? ⟨fb, 0, none⟩ = some (.int .i64 ek) ∧ w''.cell? ⟨fb, 1, none⟩ = some (.int .i64 pl) ∧ w''.cell? ⟨gr, 0, none⟩ = some (.string (bs t2)) ∧ w''.cell? ⟨gx, 0, none⟩ = some (.string (bs t2)) ∧ Below wd.heap.size wd w'')) := by
                  intro w' hS
                  refine hid ((gSize_any gx m t2 w' hS.2.2.2.1).mono ?_)
                  rintro e w'' ⟨rfl, rfl⟩
                  exact ⟨rfl, hS⟩
                have hd : Below wd.heap.size wd wd.drew := (Below.refl _ _).drew
                clear keepB her hv2 hv1'
                go_wp2_with fail
                go_region_held3 (fun w' => (w'.cell? ⟨fb, 0, none⟩ = some (.int .i64 ek) ∧ w'.cell? ⟨fb, 1, none⟩ = some (.int .i64 pl) ∧ w'.cell? ⟨gr, 0, none⟩ = some (.string (bs t2)) ∧ w'.cell? ⟨gx, 0, none⟩ = some (.string (bs t2)) ∧ Below wd.heap.size wd w'))
                  (first | exact ⟨q0, q1, q2, q3, hd⟩ | assumption | exact ⟨by assumption, by assumption, by assumption, by assumption, by assumption⟩)
                  (first
                    | (go_at_call 15; refine (dp _ ?_).out.mono ?_; (first | assumption | exact ⟨q0, q1, q2, q3, hd⟩ | exact ⟨by assumption, by assumption, by assumption, by assumption, by assumption⟩); rintro e w3 ⟨rfl, j0, j1, j2, j3, j4⟩)
                    | (go_at_call 24; refine (de _ ?_).out.mono ?_; (first | assumption | exact ⟨q0, q1, q2, q3, hd⟩ | exact ⟨by assumption, by assumption, by assumption, by assumption, by assumption⟩); rintro e w3 ⟨rfl, j0, j1, j2, j3, j4⟩)
                    | (go_at_call 29; refine (ds _ ?_).out.mono ?_; (first | assumption | exact ⟨q0, q1, q2, q3, hd⟩ | exact ⟨by assumption, by assumption, by assumption, by assumption, by assumption⟩); rintro e w3 ⟨rfl, j0, j1, j2, j3, j4⟩))
                go_wp2
                have key : ∀ w'', Below wd.heap.size wd w'' → RGp l.length m gx gr w (.int .i64 ((k : Int) + 1)) w'' := fun w'' hbZ => ⟨k + 1, t2, by omega, by go_num, hst, hX2.below hbZ, hR2.below hbZ, hbD.trans (hbZ.mono hbD.size)⟩
                go_roundw
                case rel => exact key _ (by assumption)
                case measure => simp [intOf]; omega
              · go_wp2_with fail
                go_ret
                exact ⟨rfl, hb⟩
theorem reach_of_each {H : Type} {P : Program} {ts : List TypeId} {ds : List (DataW H)} (h : (DataW.weightsEach P ts ds).all (· ≤ reachBytes) = true) {j : Nat} {t : TypeId} {d : DataW H} (ht : ts[j]? = some t) (hd : ds[j]? = some d) : ∀ n ∈ d.weights P t, n ≤ reachBytes :=
  fun n hn => by simpa using List.all_eq_true.1 h n (DataW.weights_mem_each ht hd n hn)
theorem weightsAll_mem' {H : Type} {P : Program} {e : TypeId} : ∀ {l : List (DataW H)} {d : DataW H}, d ∈ l → ∀ n ∈ d.weights P e, n ∈ DataW.weightsAll P e l
  | x :: l, d, hd, n, hn => by
    rw [DataW.weightsAll]
    rcases List.mem_cons.1 hd with rfl | hd
    · exact List.mem_append_left _ hn
    · exact List.mem_append_right _ (weightsAll_mem' hd n hn)
open Go.ChangeShapes Go.WideShapes in
theorem parts_open {H : Type} {enc : TypeId × Value → H} {W : World} {fuel : Nat} {a0 : Option Addr} {len cap : Nat} {x : DataW H × List MemPlace}
    (h : DataW.trod enc Tryd.prog W 0 (fun _ => true) true fuel 48 (Value.slice a0 len cap).cells.toList = some x) (hw : ∀ n ∈ x.1.weights Tryd.prog 48, n ≤ reachBytes) :
    ∃ l, PtSl W (.slice a0 len cap) l ∧ PtBd l := by
  have cs : Tryd.prog.cellsOf 9 = 1 := by kernel_rfl
  have cb : Tryd.prog.cellsOf 4 = 1 := by kernel_rfl
  rcases Go.Deep.open_slice_pairs Tryd.underlying48 Tryd.underlying50 (by kernel_rfl) rfl rfl cs cb h with ⟨hc, _⟩ | ⟨a, l, c, m, n, V0, V1, D0, D1, P0, P1, hc, _, hl, hm, hmm, hx, hi⟩
  · simp [Value.cells] at hc
    obtain ⟨rfl, rfl, rfl⟩ := hc
    exact ⟨[], sl_nil W 2, by simp, by intro k; simp⟩
  · simp [Value.cells] at hc
    obtain ⟨rfl, rfl, rfl⟩ := hc
    simp only [if_true] at hmm
    have hi' : ∀ k, k < len → ∃ s b, W.cell? (a.add (k * 2)) = some (.string s) ∧ W.cell? (a.add (k * 2 + 1)) = some (.bool b) ∧ s.size ≤ 140737488355328 := by
      intro k hk
      obtain ⟨g0, g1, d0, d1⟩ := hi k (by omega)
      obtain ⟨s, e0, f0, _⟩ := DataW.trod_string Tryd.underlying9 d0
      obtain ⟨b, e1, _⟩ := DataW.trod_bool Tryd.underlying4 d1
      simp only [List.cons.injEq, and_true] at e0 e1
      rw [e0] at g0; rw [e1] at g1
      refine ⟨s, b, g0, g1, ?_⟩
      have f0' : D0 k = .lit (.string s.data.toList) := congrArg Prod.fst f0
      have := hw s.data.toList.length (by
        rw [hx]
        simp only [DataW.weights, Tryd.underlying48]
        refine List.mem_cons_of_mem _ (List.mem_append_left _ (weightsAll_mem' (d := .agg [D0 k, D1 k]) (List.mem_map.2 ⟨k, List.mem_range.2 hk, rfl⟩) _ ?_))
        simp only [DataW.weights, Tryd.underlying50]
        rw [f0']
        simp [DataW.weightsEach, DataW.weights])
      have hre : reachBytes ≤ 140737488355328 := by decide
      have h2 : s.data.toList.length = s.size := by simp
      omega
    have hX : ∀ k, k < len → W.cell? (a.add (k * 2)) = some (partF ((fun k => (strB2 ((W.cell? (a.add (k * 2))).getD .nilIface), boolB ((W.cell? (a.add (k * 2 + 1))).getD .nilIface))) k)) ∧ W.cell? (a.add (k * 2 + 1)) = some (partG ((fun k => (strB2 ((W.cell? (a.add (k * 2))).getD .nilIface), boolB ((W.cell? (a.add (k * 2 + 1))).getD .nilIface))) k)) := by
      intro k hk
      obtain ⟨s, b, h0, h1, _⟩ := hi' k hk
      simp only [h0, h1, Option.getD, strB2, boolB, partF, partG, bs_data, and_self]
    refine ⟨_, sl2_of_cells _ hX, ?_, ?_⟩
    · unfold maxLen at hm; simp; omega
    · intro k
      by_cases hk : k < len
      · obtain ⟨s, b, h0, h1, h2⟩ := hi' k hk
        rw [List.getD, List.getElem?_map, List.getElem?_range hk]
        simp only [h0, Option.getD, strB2, Option.map]
        simpa using h2
      · rw [List.getD, List.getElem?_eq_none (by simp; omega)]; simp
theorem gatherPlays_row (m : Int) (v : Value) (l : List (List UInt8 × Bool)) (w : World) (h0 : -9223372036854775808 ≤ m) (h1 : m ≤ 9223372036854775807) (h : PtSl w v l) (hbd : PtBd l) (hL : laidMetH Tryd.prog Rows.gatherPlaysRow.laid w) :
    Calls Tryd.prog 6 #[.int .i64 m, v] w fun e w' => e = .returned (.bool true) ∧ Below w.heap.size w w' :=
  gatherPlays_law m v l w h hbd (cardBase.etype_of_laid (by simp [Rows.gatherPlaysRow]) hL)
end Go.Proofs.YtbbnnhaboegedaaDoor
