/- Pairs as text, by the program. -/
import Derived.Test.YtbbnnhaboegedaaDoorPairRight
import Derived.Test.YtbbnnhaboegedaaDoorShelfB
import Derived.Test.YtbbnnhaboegedaaDoorShelfW
import Derived.Deep.QuietTactic
import Derived.BigQuiet
import Derived.StillTailTactics
namespace Go.Proofs.YtbbnnhaboegedaaDoor
open Go.RowKit
set_option linter.unusedVariables false
set_option maxRecDepth 100000
/-- pairs as text -/
def pairsB : PL → List UInt8
  | [] => []
  | p :: l => (p.1 ++ (61 :: (p.2 ++ [0]))) ++ pairsB l
theorem pairsB_drop (l : PL) (k : Nat) (h : k < l.length) : pairsB (l.drop k) = ((l.getD k ([], [])).1 ++ (61 :: ((l.getD k ([], [])).2 ++ [0]))) ++ pairsB (l.drop (k + 1)) := by
  rw [drop_cons l k ([], []) h, pairsB]
theorem isKey_len (l : List UInt8) (h : isKey l = true) : l.length ≤ 63 := by
  unfold isKey at h; simp at h; omega
theorem isValue_len (l : List UInt8) (h : isValue l = true) : l.length ≤ 255 := by
  unfold isValue at h; simp at h; omega
theorem pairsRG_zero (l : PL) (i : Nat) (h : (pairsRG l i).1 = 0) : pairsRG l i = (0, -1) ∧ ∀ k, (l.getD k ([], [])).1.length ≤ 63 ∧ (l.getD k ([], [])).2.length ≤ 255 := by
  induction l generalizing i with
  | nil => exact ⟨rfl, fun k => by simp⟩
  | cons p l ih =>
    rw [pairsRG] at h ⊢
    by_cases h1 : isKey p.1 = false
    · rw [if_pos h1] at h; simp at h
    · rw [if_neg h1] at h ⊢
      by_cases h2 : isValue p.2 = false
      · rw [if_pos h2] at h; simp at h
      · rw [if_neg h2] at h ⊢
        obtain ⟨e, hk⟩ := ih _ h
        refine ⟨e, fun k => ?_⟩
        cases k with
        | zero => exact ⟨isKey_len _ (by simpa using h1), isValue_len _ (by simpa using h2)⟩
        | succ k => exact hk k
theorem pairsR_zero (l : PL) (h : (pairsR l).1 = 0) : pairsR l = (0, -1) ∧ l.length ≤ 60 ∧ ∀ k, (l.getD k ([], [])).1.length ≤ 63 ∧ (l.getD k ([], [])).2.length ≤ 255 := by
  unfold pairsR at h ⊢
  by_cases h60 : 60 < l.length
  · rw [if_pos h60] at h; simp at h
  · rw [if_neg h60] at h ⊢
    have := pairsRG_zero l 0 h
    exact ⟨this.1, by omega, this.2⟩
theorem errIs_zero' {w : World} {v : Value} {pl : Int} (h : ErrIs w v 0 pl) : v = .nilIface := by
  generalize hk : 0 = k at h
  cases h <;> first | rfl | omega
def PPrintPost (l : PL) (w : World) (e : Ending) (w' : World) : Prop :=
  (∃ er, e = .returned (.tuple #[.string (bs (if (pairsR l).1 = 0 then pairsB l else [])), er]) ∧ ErrIs w' er (pairsR l).1 (pairsR l).2) ∧ Below w.heap.size w w'
def RPPrint (l : PL) (w w1 : World) (i : Value) (wr : World) : Prop :=
  ∃ (k : Nat) (acc : List UInt8), k ≤ l.length ∧ acc.length ≤ 400 * k ∧ i = .int .i64 (k : Nat) ∧ pairsB l = acc ++ pairsB (l.drop k) ∧
    Lib.IsBuilderF 90 5 w1.heap.size w1.heap.size (Lib.byteCells acc) wr ∧ Below w1.heap.size w1 wr
theorem strCells_bs (l : List UInt8) : Lib.strCells (bs l) = Lib.byteCells l := by rw [Lib.strCells_eq]; simp [bs]
theorem errIs_pos {w : World} {v : Value} {k : Nat} {pl : Int} (h : ErrIs w v k pl) (hk : 0 < k) : v ≠ .nilIface := by
  cases h <;> first | omega | (intro h; cases h)
theorem builder_new (w : World) : Lib.IsBuilderF 90 5 w.heap.size w.heap.size [] (w.alloc (.cells #[.pointer none, .slice none 0 0] 90)) :=
  .inl ⟨Nat.le_refl _, _, heap_alloc_new _ _, ⟨rfl, .inl ⟨rfl, rfl⟩⟩, by simp [Value.ownBlock]⟩
set_option maxHeartbeats 4000000 in
theorem print_any (v : Value) (l : PL) (w : World) (h : PSl w v l) (hbd : PBd l) :
    Calls Tryd.prog 12 #[v] w fun e w' => PPrintPost l w e w' := by
  have c1 := hid (pairsRight_any v l w h hbd)
  by_cases hz : (pairsR l).1 = 0
  · obtain ⟨hR, h60, hlen⟩ := pairsR_zero l hz
    unfold PRightPost at c1
    rw [hR] at c1
    have HR := hid hR; clear hR hz
    rcases h.open_ with ⟨rfl, a, c, rfl⟩ | ⟨h0, b, o, c, rfl, hbl, hcell⟩
    · clear h hlen
      go_enter Tryd.func12, Tryd.ntmps12
      go_wp2_with fail
      refine c1.out.mono ?_; rintro e w1 ⟨⟨er, rfl, her⟩, hb1⟩
      obtain rfl := errIs_zero' her
      go_wp2_with fail
      have hbd := builder_new w1
      refine wp_loop_rounds 1 ?_
      rw [rounds_succ]
      go_wp2_with fail
      refine (Tryd.Builder_String_any_k w1.heap.size w1.heap.size [] _ hbd (by simp)).mono ?_
      rintro e w2 ⟨rfl, hB2, hb2, _⟩
      go_wp2
      go_ret2
      refine ⟨⟨.nilIface, rfl, ?_⟩, hb1.trans (((Below.refl w1.heap.size w1).alloc (Nat.le_refl _) _).trans hb2 |>.mono hb1.size)⟩
      rw [HR.out]; exact .nil
    clear h
    have Hcell := hid hcell; clear hcell
    have Hlen := hid hlen; clear hlen
    have e61 : (⟨#[61]⟩ : ByteArray) = bs [61] := rfl
    have e00 : (⟨#[0]⟩ : ByteArray) = bs [0] := rfl
    go_enter Tryd.func12, Tryd.ntmps12
    go_wp2_with fail
    refine c1.out.mono ?_; rintro e w1 ⟨⟨er, rfl, her⟩, hb1⟩
    obtain rfl := errIs_zero' her
    clear c1
    go_wp2_with fail
    have hbd := builder_new w1
    have hbl1 : b < w1.heap.size := Nat.lt_of_lt_of_le hbl hb1.size
    go_loopw [15] (fun i wr => RPPrint l w w1 i wr) (fun i _ => l.length - (intOf i).toNat)
    case atStart => exact ⟨0, [], by omega, by simp, rfl, rfl, hbd, (Below.refl _ _).alloc (Nat.le_refl _) _⟩
    case round =>
      obtain ⟨k, acc, hk, hac, rfl, heq, hB, hb⟩ := hrel
      have hsz := hb.size
      by_cases hlt : k < l.length
      · obtain ⟨c0, c1⟩ := Hcell.out k hlt
        have g0 := (hb.cell (p := ⟨b, o + k * 2, none⟩) hbl1).trans ((hb1.cell (p := ⟨b, o + k * 2, none⟩) hbl).trans c0)
        have g1 := (hb.cell (p := ⟨b, o + k * 2 + 1, none⟩) hbl1).trans ((hb1.cell (p := ⟨b, o + k * 2 + 1, none⟩) hbl).trans c1)
        obtain ⟨hd0, hd1⟩ := Hlen.out k
        rw [pairsB_drop l k hlt] at heq
        clear c0 c1
        generalize l.getD k ([], []) = x at *
        obtain ⟨x1, x2⟩ := x
        simp only at *
        have Heq := hid heq; clear heq
        go_wp2_with fail
        refine (Tryd.Builder_WriteString_k w1.heap.size w1.heap.size (Lib.byteCells acc) (bs (x1 ++ (61 :: (x2 ++ [0])))) _ (hB.alloc _) ?_ ?_).mono ?_
        · rw [bs_size, Lib.byteCells_length]; simp; omega
        · simp; omega
        rintro e w2 ⟨rfl, hB2, hb2, _⟩
        rw [strCells_bs, ← Lib.byteCells_append] at hB2
        go_wp2
        go_roundw
        case rel => exact ⟨k + 1, acc ++ (x1 ++ (61 :: (x2 ++ [0]))), by omega, by simp; omega, by go_num, by rw [Heq.out]; simp, .inr hB2, (hb.alloc hsz _).trans hb2⟩
        case measure => simp [intOf]; omega
      · obtain rfl : k = l.length := by omega
        have Heq := hid heq; clear heq
        go_wp2_with fail
        refine (Tryd.Builder_String_any_k w1.heap.size w1.heap.size acc _ hB hsz).mono ?_
        rintro e w2 ⟨rfl, hB2, hb2, _⟩
        go_wp2
        go_ret2
        refine ⟨⟨.nilIface, ?_, ?_⟩, hb1.trans ((hb.trans hb2).mono hb1.size)⟩
        · rw [HR.out, if_pos rfl, Heq.out, List.drop_length, pairsB, List.append_nil]; rfl
        · rw [HR.out]; exact .nil
  · unfold PRightPost at c1
    unfold PPrintPost
    rw [if_neg hz]
    generalize (pairsR l).1 = k at *
    generalize (pairsR l).2 = pl at *
    go_enter Tryd.func12, Tryd.ntmps12
    go_wp2_with fail
    refine c1.out.mono ?_; rintro e w1 ⟨⟨er, rfl, her⟩, hb1⟩
    clear c1
    cases her with
    | nil => exact absurd rfl hz
    | bare k hk =>
      have her := ErrIs.bare (w := w1) k hk
      clear hz hk
      go_wp2
      go_ret2
      exact ⟨⟨_, rfl, her⟩, hb1⟩
    | at_ k hk pl b h0 h1 =>
      have her := ErrIs.at_ (w := w1) k hk pl b h0 h1
      clear hz hk h0 h1
      go_wp2
      go_ret2
      exact ⟨⟨_, rfl, her⟩, hb1⟩
end Go.Proofs.YtbbnnhaboegedaaDoor
