/- Texts that come in parts: by the program and by the document. -/
import Derived.Test.YtbbnnhaboegedaaDoorParse
import Derived.Test.YtbbnnhaboegedaaDoorUnpairs
namespace Go.Proofs.YtbbnnhaboegedaaDoor
open Go.RowKit
set_option linter.unusedVariables false
set_option maxRecDepth 100000
/-! ### one old block is written, all else stands -/
theorem only_refl (w : World) (r : Option Nat) : w.grownBy w r := ⟨rfl, rfl, rfl, Nat.le_refl _, fun _ _ _ => rfl⟩
theorem only_below {a w w' : World} {r : Option Nat} (h : a.grownBy w r) (hb : Below w.heap.size w w') : a.grownBy w' r :=
  ⟨hb.os.trans h.os, hb.tape.trans h.tape, hb.output.trans h.output, Nat.le_trans h.size hb.size, fun k hk hn => (hb.block k (Nat.lt_of_lt_of_le hk h.size)).trans (h.block k hk hn)⟩
theorem only_drewN {a w : World} {r : Option Nat} (h : a.grownBy w r) (n : Nat) : a.grownBy (w.drewN n) r := ⟨h.os, h.tape, h.output, h.size, h.block⟩
theorem only_alloc {a w : World} {r : Option Nat} (h : a.grownBy w r) (o : Obj) : a.grownBy (w.alloc o) r := only_below h ((Below.refl _ _).alloc (Nat.le_refl _) _)
theorem only_set {a w : World} {g : Nat} (h : a.grownBy w (some g)) (i : Nat) (u : Value) : a.grownBy (w.setCell ⟨g, i, none⟩ u) (some g) :=
  ⟨h.os, h.tape, h.output, by simpa [World.setCell] using h.size, fun k hk hn => by
    have hkg : k ≠ g := fun e => hn (by rw [e])
    exact (Below.heap_setCell w ⟨g, i, none⟩ u k hkg).trans (h.block k hk hn)⟩
theorem only_new {a w : World} {g : Nat} (h : a.grownBy w (some g)) {p : Addr} (hp : a.heap.size ≤ p.block) (u : Value) : a.grownBy (w.setCell p u) (some g) :=
  ⟨h.os, h.tape, h.output, by simpa [World.setCell] using h.size, fun k hk hn => (Below.heap_setCell w p u k (by intro e; omega)).trans (h.block k hk hn)⟩
theorem only_trans {a b c : World} {r : Option Nat} (h : a.grownBy b r) (k : b.grownBy c r) : a.grownBy c r :=
  ⟨k.os.trans h.os, k.tape.trans h.tape, k.output.trans h.output, Nat.le_trans h.size k.size, fun i hi hn => (k.block i (Nat.lt_of_lt_of_le hi h.size) hn).trans (h.block i hi hn)⟩
/-- what has been made since, one block of it written: nothing older has turned -/
theorem below_only {B : Nat} {a b c : World} (h : Below B a b) {g : Nat} (k : b.grownBy c (some g)) (hg : B ≤ g) (hB : B ≤ b.heap.size) : Below B a c :=
  h.trans ⟨k.os, k.tape, k.output, k.size, fun i hi => k.block i (by omega) (by intro e; cases e; omega)⟩
/-- a block known whole -/
def Blk (w : World) (g : Nat) (T : TypeId) (cs : Array Value) : Prop := w.heap[g]? = some (.cells cs T (0, 0))
theorem Blk.lt {w : World} {g : Nat} {T : TypeId} {cs : Array Value} (h : Blk w g T cs) : g < w.heap.size := by
  rcases Nat.lt_or_ge g w.heap.size with h1 | h1
  · exact h1
  · unfold Blk at h; rw [Array.getElem?_eq_none h1] at h; cases h
theorem Blk.cell {w : World} {g : Nat} {T : TypeId} {cs : Array Value} (h : Blk w g T cs) (i : Nat) : w.cell? ⟨g, i, none⟩ = cs[i]? := cell_of_row w g i cs T (0, 0) h
theorem Blk.free {w : World} {g : Nat} {T : TypeId} {cs : Array Value} (h : Blk w g T cs) (i : Nat) : w.frozen? ⟨g, i, none⟩ = false := frozen_of_row w g i cs T h
theorem Blk.new (w : World) (T : TypeId) (cs : Array Value) : Blk (w.alloc (.cells cs T)) w.heap.size T cs := heap_alloc_new w _
theorem Blk.below {w w' : World} {g : Nat} {T : TypeId} {cs : Array Value} (h : Blk w g T cs) (hb : Below w.heap.size w w') : Blk w' g T cs := (hb.block g h.lt).trans h
theorem Blk.only {w w' : World} {g r : Nat} {T : TypeId} {cs : Array Value} (h : Blk w g T cs) (hb : w.grownBy w' (some r)) (hr : g ≠ r) : Blk w' g T cs := (hb.block g h.lt (by intro e; cases e; exact hr rfl)).trans h
theorem Blk.set {w : World} {g : Nat} {T : TypeId} {cs : Array Value} (h : Blk w g T cs) (i : Nat) (u : Value) : Blk (w.setCell ⟨g, i, none⟩ u) g T (cs.setIfInBounds i u) := by
  unfold Blk at h ⊢
  simp [World.setCell, Array.getElem?_modify, h]
theorem Blk.far {w : World} {g : Nat} {T : TypeId} {cs : Array Value} (h : Blk w g T cs) {p : Addr} (hp : g ≠ p.block) (u : Value) : Blk (w.setCell p u) g T cs := (Below.heap_setCell w p u g hp).trans h
theorem EType.only {w w' : World} {g : Nat} (h : EType w) (k : w.grownBy w' (some g)) (hg : 1 ≠ g) : EType w' := by
  have := World.cell?_of_block (a := ⟨1, 0, none⟩) (k.block 1 h.lt (by intro e; cases e; exact hg rfl))
  unfold EType; rw [this]; exact h
theorem ErrIs.only {w w' : World} {v : Value} {k : Nat} {pl : Int} {g : Nat} (h : ErrIs w v k pl) (hk : w.grownBy w' (some g)) (hf : ∀ n, w.cell? ⟨g, 0, none⟩ ≠ some (.int .i64 n)) : ErrIs w' v k pl := by
  cases h with
  | nil => exact .nil
  | bare k h => exact .bare k h
  | at_ k h pl b h0 h1 =>
    have hb : b ≠ g := by rintro rfl; exact hf _ h0
    have e := hk.block b (block_lt_of_cell h0) (by intro e; cases e; exact hb rfl)
    exact .at_ k h pl b ((World.cell?_of_block (a := ⟨b, 0, none⟩) e).trans h0) ((World.cell?_of_block (a := ⟨b, 1, none⟩) e).trans h1)
/-! ### one part more -/
/-- the text that is kept, and what is answered: behind one part more -/
def gStep (m : Nat) (t s : List UInt8) (more : Bool) : List UInt8 × PL × Nat × Int :=
  if m < t.length + s.length then ([], [], 12, -1) else if more then (t ++ s, [], 0, -1) else
  ([], if (parseP ((t ++ s).length + 1) (t ++ s) 0).2.1 = 0 then (parseP ((t ++ s).length + 1) (t ++ s) 0).1 else [], (parseP ((t ++ s).length + 1) (t ++ s) 0).2)
theorem gStep_le (m : Nat) (t s : List UInt8) (more : Bool) : (gStep m t s more).1.length ≤ m := by
  unfold gStep
  split
  · simp
  · split
    · simp; omega
    · simp
theorem PSl.only {w w' : World} {v : Value} {l : PL} {B g : Nat} (h : PSl w v l) (hf : FreshV B v) (k : w.grownBy w' (some g)) (hg : g < B) : PSl w' v l := by
  obtain ⟨a, c, rfl, hl, hc⟩ := h
  refine ⟨a, c, rfl, hl, ?_⟩
  rcases hc with h0 | ⟨b, o, rfl, hd⟩
  · exact .inl h0
  · refine .inr ⟨b, o, rfl, fun j u' hu => ?_⟩
    have hb := hf _ _ _ rfl
    have hc := hd j u' hu
    exact (World.cell?_of_block (a := ⟨b, o + j, none⟩) (k.block b (block_lt_of_cell hc) (by intro e; cases e; simp at hb; omega))).trans hc
def GAddPost (g : Nat) (m : Nat) (R : List UInt8 × PL × Nat × Int) (w : World) (e : Ending) (w' : World) : Prop :=
  (∃ v er, e = .returned (.tuple #[v, er]) ∧ ErrIs w' er R.2.2.1 R.2.2.2 ∧ PSl w' v R.2.1) ∧ Blk w' g 107 #[.string (bs R.1), .int .i64 (m : Nat)] ∧ w.grownBy w' (some g)
set_option maxHeartbeats 4000000 in
theorem gAdd_any (g m : Nat) (t s : List UInt8) (more : Bool) (w : World) (hst : Blk w g 107 #[.string (bs t), .int .i64 (m : Nat)]) (hm : m ≤ 20000) (ht : t.length ≤ m) (hs : s.length ≤ 9223372036854775807) (hg : EType w) (hgl : 1 ≠ g) :
    Calls Tryd.prog 28 #[.pointer (some ⟨g, 0, none⟩), .string (bs s), .bool more] w fun e w' => GAddPost g m (gStep m t s more) w e w' := by
  have g0 : w.cell? ⟨g, 0, none⟩ = some (.string (bs t)) := hst.cell 0
  have g1 : w.cell? ⟨g, 1, none⟩ = some (.int .i64 (m : Nat)) := hst.cell 1
  have f0 : w.frozen? ⟨g, 0, none⟩ = false := hst.free 0
  have hgw := hst.lt
  have hsub : IntKind.i64.wrap ((m : Int) - (t.length : Int)) = ((m - t.length : Nat) : Int) := by rw [IntKind.wrap_i64]; omega
  have hone := fun n => only_drewN (only_refl w (some g)) n
  by_cases hbig : m < t.length + s.length
  · have hR : gStep m t s more = ([], [], 12, -1) := by rw [gStep, if_pos hbig]
    have hbb : decide (((m - t.length : Nat) : Int) < (s.length : Int)) = true := decide_eq_true (by omega)
    have hbn : m - t.length < s.length := by omega
    rw [hR]
    clear hR hbig
    go_enter Tryd.func28, Tryd.ntmps28
    go_wp2
    go_quiet (fail)
    go_wp2
    go_ret2
    refine ⟨⟨_, _, rfl, .bare 12 (by omega), psl_nil _⟩, ?_, only_set (hone nq) 0 _⟩
    exact Blk.set (w := w.drewN nq) hst 0 (.string (bs []))
  · have hbb : decide (((m - t.length : Nat) : Int) < (s.length : Int)) = false := decide_eq_false (by omega)
    have hbn : ¬ m - t.length < s.length := by omega
    have hts : t.length + s.length ≤ m := by omega
    have ha1 : ¬ 9223372036854775807 < t.length + s.length := by omega
    cases more with
    | true =>
      have hR : gStep m t s true = (t ++ s, [], 0, -1) := by rw [gStep, if_neg hbig, if_pos rfl]
      rw [hR]
      clear hR hbig
      go_enter Tryd.func28, Tryd.ntmps28
      go_wp2
      go_quiet (fail)
      go_wp2
      go_ret2
      refine ⟨⟨_, _, rfl, .nil, psl_nil _⟩, ?_, only_set (hone nq) 0 _⟩
      exact Blk.set (w := w.drewN nq) hst 0 (.string (bs (t ++ s)))
    | false =>
      have hR : gStep m t s false = ([], if (parseP ((t ++ s).length + 1) (t ++ s) 0).2.1 = 0 then (parseP ((t ++ s).length + 1) (t ++ s) 0).1 else [], (parseP ((t ++ s).length + 1) (t ++ s) 0).2) := by rw [gStep, if_neg hbig, if_neg (by simp)]
      rw [hR]
      clear hR hbig
      have hW := fun n => only_set (hone n) 0 (.string (bs (t ++ s)))
      have c1 := fun n => hid (parse_any (t ++ s) ((w.drewN n).setCell ⟨g, 0, none⟩ (.string (bs (t ++ s)))) (by simp; omega) (hg.only (hW n) hgl))
      unfold PParsePost at c1
      generalize (if (parseP ((t ++ s).length + 1) (t ++ s) 0).2.1 = 0 then (parseP ((t ++ s).length + 1) (t ++ s) 0).1 else []) = xs at *
      generalize (parseP ((t ++ s).length + 1) (t ++ s) 0).2 = kp at *
      obtain ⟨k, pl⟩ := kp
      have hblk := fun n => Blk.set (w := w.drewN n) hst 0 (.string (bs (t ++ s)))
      have Hblk := hid hblk; have HW := hid hW
      clear hblk hW
      go_enter Tryd.func28, Tryd.ntmps28
      go_wp2
      go_quiet (fail)
      go_wp2_with fail
      refine (c1 nq).out.mono ?_; rintro e w1 ⟨⟨v, er, rfl, her, hv, hfr⟩, hb1⟩
      have hB1 := (Hblk.out nq).below hb1
      have hO1 := only_below (HW.out nq) hb1
      have gg0 : w1.cell? ⟨g, 0, none⟩ = some (.string (bs (t ++ s))) := hB1.cell 0
      have gf0 : w1.frozen? ⟨g, 0, none⟩ = false := hB1.free 0
      clear c1 g0 g1 f0 Hblk HW
      go_wp2
      go_ret2
      have hsz : ((w.drewN nq).setCell ⟨g, 0, none⟩ (.string (bs (t ++ s)))).heap.size = w.heap.size := by simp [World.setCell]
      refine ⟨⟨v, er, rfl, ?_, hv.setCell hfr (by rw [hsz]; exact hgw) _⟩, hB1.set 0 (.string (bs [])), only_set hO1 0 _⟩
      exact her.only (only_set (only_refl w1 (some g)) 0 _) (fun n h => by rw [gg0] at h; cases h)
theorem add_facts {w X : World} {g : Nat} {T : TypeId} {cs : Array Value} (hO : w.grownBy X (some g)) (hB : Blk X g T cs) (hE : X.heap.size = w.heap.size) :
    w.grownBy (X.alloc (.cells #[.int .i64 0, .int .i64 0] 28)) (some g) ∧ Blk (X.alloc (.cells #[.int .i64 0, .int .i64 0] 28)) g T cs ∧
      Blk (X.alloc (.cells #[.int .i64 0, .int .i64 0] 28)) w.heap.size 28 #[.int .i64 0, .int .i64 0] :=
  ⟨only_alloc hO _, (Below.heap_alloc _ _ g hB.lt).trans hB, by have := Blk.new X 28 #[.int .i64 0, .int .i64 0]; rwa [hE] at this⟩
def RAddPost (g : Nat) (m : Nat) (R : List UInt8 × PL × Nat × Int) (w : World) (e : Ending) (w' : World) : Prop :=
  (∃ v, e = .returned (.tuple #[v, .agg #[.int .i64 (R.2.2.1 : Nat), .int .i64 R.2.2.2]]) ∧ PSl w' v R.2.1 ∧ FreshV w.heap.size v) ∧ Blk w' g 57 #[.string (bs R.1), .int .i64 (m : Nat)] ∧ w.grownBy w' (some g)
set_option maxHeartbeats 4000000 in
theorem rgAdd_any (g m : Nat) (t s : List UInt8) (more : Bool) (w : World) (hst : Blk w g 57 #[.string (bs t), .int .i64 (m : Nat)]) (hm : m ≤ 20000) (ht : t.length ≤ m) (hs : s.length ≤ 9223372036854755807) :
    Calls Tryd.prog 27 #[.pointer (some ⟨g, 0, none⟩), .string (bs s), .bool more] w fun e w' => RAddPost g m (gStep m t s more) w e w' := by
  have g0 : w.cell? ⟨g, 0, none⟩ = some (.string (bs t)) := hst.cell 0
  have g1 : w.cell? ⟨g, 1, none⟩ = some (.int .i64 (m : Nat)) := hst.cell 1
  have f0 : w.frozen? ⟨g, 0, none⟩ = false := hst.free 0
  have hgw := hst.lt
  have ha1 : ¬ 9223372036854775807 < t.length + s.length := by omega
  have hgne : g ≠ w.heap.size := by omega
  have hE : ((w.setCell ⟨g, 0, none⟩ (.string ⟨#[]⟩)).heap.size) = w.heap.size := by simp [World.setCell]
  have hO1 := only_alloc (only_set (only_refl w (some g)) 0 (.string ⟨#[]⟩)) (.cells #[.int .i64 0, .int .i64 0] 28)
  have hB0 : Blk (w.setCell ⟨g, 0, none⟩ (.string ⟨#[]⟩)) g 57 #[.string (bs []), .int .i64 (m : Nat)] := hst.set 0 (.string (bs []))
  have hB1 : Blk ((w.setCell ⟨g, 0, none⟩ (.string ⟨#[]⟩)).alloc (.cells #[.int .i64 0, .int .i64 0] 28)) g 57 #[.string (bs []), .int .i64 (m : Nat)] := (Below.heap_alloc _ _ g (by rw [hE]; exact hgw)).trans hB0
  have hF1 := Blk.new (w.setCell ⟨g, 0, none⟩ (.string ⟨#[]⟩)) 28 #[.int .i64 0, .int .i64 0]
  rw [hE] at hF1
  have hz1 : w.heap.size < ((w.setCell ⟨g, 0, none⟩ (.string ⟨#[]⟩)).alloc (.cells #[.int .i64 0, .int .i64 0] 28)).heap.size := by simp [hE]
  have HE := hid hE; clear hE hB0
  have HO1 := hid hO1; have HB1 := hid hB1; have HF1 := hid hF1
  clear hO1 hB1 hF1
  by_cases hbig : m < t.length + s.length
  · have hR : gStep m t s more = ([], [], 12, -1) := by rw [gStep, if_pos hbig]
    have hbb : decide ((m : Int) < (t.length : Int) + (s.length : Int)) = true := decide_eq_true (by omega)
    rw [hR]
    clear hR
    go_enter Tryd.func27, Tryd.ntmps27
    go_wp2_with fail
    refine (bareF_any _ _).mono ?_; rintro e w2 ⟨rfl, hb2⟩
    have hO2 := only_below HO1.out hb2; have hB2 := HB1.out.below hb2; have hF2 := HF1.out.below hb2
    have q0 : w2.cell? ⟨w.heap.size, 0, none⟩ = some (.int .i64 0) := hF2.cell 0
    have q1 : w2.cell? ⟨w.heap.size, 1, none⟩ = some (.int .i64 0) := hF2.cell 1
    have p0 : w2.frozen? ⟨w.heap.size, 0, none⟩ = false := hF2.free 0
    have p1 : w2.frozen? ⟨w.heap.size, 1, none⟩ = false := hF2.free 1
    clear HO1 HB1 HF1 g0 g1 f0 hz1
    go_wp2
    refine bodyPost_ret (v := .tuple #[.slice none 0 0, .agg #[.int .i64 12, .int .i64 (-1)]]) (by simp [results, Tryd.results27, go_sem, q0, q1]) rfl ?_
    exact ⟨⟨_, rfl, psl_nil _, freshV_nil _⟩, (hB2.far (p := ⟨w.heap.size, 0, none⟩) hgne _).far (p := ⟨w.heap.size, 1, none⟩) hgne _, only_new (only_new hO2 (p := ⟨w.heap.size, 0, none⟩) (Nat.le_refl _) _) (p := ⟨w.heap.size, 1, none⟩) (Nat.le_refl _) _⟩
  · have hbb : decide ((m : Int) < (t.length : Int) + (s.length : Int)) = false := decide_eq_false (by omega)
    have hbn : ¬ m < t.length + s.length := hbig
    cases more with
    | true =>
      have hR : gStep m t s true = (t ++ s, [], 0, -1) := by rw [gStep, if_neg hbig, if_pos rfl]
      rw [hR]
      clear hR
      have hX := add_facts (only_set (only_set (only_refl w (some g)) 0 (.string ⟨#[]⟩)) 0 (.string (bs (t ++ s)))) ((hst.set 0 (.string ⟨#[]⟩)).set 0 (.string (bs (t ++ s)))) (by simp [World.setCell])
      have HX := hid hX; clear hX HO1 HB1 HF1
      go_enter Tryd.func27, Tryd.ntmps27
      go_wp2_with fail
      refine (good_any _).mono ?_; rintro e w2 ⟨rfl, hb2⟩
      have hO2 := only_below HX.out.1 hb2; have hB2 := HX.out.2.1.below hb2; have hF2 := HX.out.2.2.below hb2
      have q0 : w2.cell? ⟨w.heap.size, 0, none⟩ = some (.int .i64 0) := hF2.cell 0
      have q1 : w2.cell? ⟨w.heap.size, 1, none⟩ = some (.int .i64 0) := hF2.cell 1
      have p0 : w2.frozen? ⟨w.heap.size, 0, none⟩ = false := hF2.free 0
      have p1 : w2.frozen? ⟨w.heap.size, 1, none⟩ = false := hF2.free 1
      clear HX g0 g1 f0 hz1
      go_wp2
      refine bodyPost_ret (v := .tuple #[.slice none 0 0, .agg #[.int .i64 0, .int .i64 (-1)]]) (by simp [results, Tryd.results27, go_sem, q0, q1]) rfl ?_
      exact ⟨⟨_, rfl, psl_nil _, freshV_nil _⟩, (hB2.far (p := ⟨w.heap.size, 0, none⟩) hgne _).far (p := ⟨w.heap.size, 1, none⟩) hgne _, only_new (only_new hO2 (p := ⟨w.heap.size, 0, none⟩) (Nat.le_refl _) _) (p := ⟨w.heap.size, 1, none⟩) (Nat.le_refl _) _⟩
    | false =>
      have hR : gStep m t s false = ([], if (parseP ((t ++ s).length + 1) (t ++ s) 0).2.1 = 0 then (parseP ((t ++ s).length + 1) (t ++ s) 0).1 else [], (parseP ((t ++ s).length + 1) (t ++ s) 0).2) := by rw [gStep, if_neg hbig, if_neg (by simp)]
      rw [hR]
      clear hR
      have hX := add_facts (only_set (only_refl w (some g)) 0 (.string ⟨#[]⟩)) (hst.set 0 (.string ⟨#[]⟩)) (by simp [World.setCell])
      have c1 := fun w => hid (unpairs_any (t ++ s) w (by simp; omega))
      unfold UnpPost faultV at c1
      generalize (if (parseP ((t ++ s).length + 1) (t ++ s) 0).2.1 = 0 then (parseP ((t ++ s).length + 1) (t ++ s) 0).1 else []) = xs at *
      generalize (parseP ((t ++ s).length + 1) (t ++ s) 0).2 = kp at *
      obtain ⟨k, pl⟩ := kp
      simp only at *
      have HX := hid hX; clear hX HO1 HB1 HF1
      go_enter Tryd.func27, Tryd.ntmps27
      go_wp2_with fail
      refine (c1 _).out.mono ?_; rintro e w2 ⟨⟨v, rfl, hv, hfr⟩, hb2⟩
      have hfr : FreshV (w.heap.size + 1) v := fun a n c h => Nat.le_trans (by simp [World.setCell]) (hfr a n c h)
      have hO2 := only_below HX.out.1 hb2; have hB2 := HX.out.2.1.below hb2; have hF2 := HX.out.2.2.below hb2
      have q0 : w2.cell? ⟨w.heap.size, 0, none⟩ = some (.int .i64 0) := hF2.cell 0
      have q1 : w2.cell? ⟨w.heap.size, 1, none⟩ = some (.int .i64 0) := hF2.cell 1
      have p0 : w2.frozen? ⟨w.heap.size, 0, none⟩ = false := hF2.free 0
      have p1 : w2.frozen? ⟨w.heap.size, 1, none⟩ = false := hF2.free 1
      clear HX g0 g1 f0 hz1
      clear c1
      go_wp2
      refine bodyPost_ret (v := .tuple #[v, .agg #[.int .i64 k, .int .i64 pl]]) (by simp [results, Tryd.results27, go_sem, q0, q1]) rfl ?_
      refine ⟨⟨_, rfl, ?_, fun a n c h => Nat.le_of_succ_le (hfr a n c h)⟩, (hB2.far (p := ⟨w.heap.size, 0, none⟩) hgne _).far (p := ⟨w.heap.size, 1, none⟩) hgne _, only_new (only_new hO2 (p := ⟨w.heap.size, 0, none⟩) (Nat.le_refl _) _) (p := ⟨w.heap.size, 1, none⟩) (Nat.le_refl _) _⟩
      exact (hv.setCell hfr (p := ⟨w.heap.size, 0, none⟩) (by simp) _).setCell hfr (p := ⟨w.heap.size, 1, none⟩) (by simp) _
end Go.Proofs.YtbbnnhaboegedaaDoor
