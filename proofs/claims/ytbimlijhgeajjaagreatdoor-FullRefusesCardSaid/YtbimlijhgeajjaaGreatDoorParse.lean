/- A PDU as bytes: plain laws. -/
import Derived.Test.YtbimlijhgeajjaaGreatDoorHeadRdPure
import Derived.Test.YtbimlijhgeajjaaGreatDoorAhsW
import Derived.Test.YtbimlijhgeajjaaGreatDoorCrc
import Derived.Test.YtbimlijhgeajjaaGreatDoorRange
import Derived.Test.YtbimlijhgeajjaaGreatDoorNego
import Derived.Maps.AppendAt
set_option linter.unusedSectionVars false
set_option linter.unusedSimpArgs false
set_option linter.unusedVariables false
namespace Go.Proofs.YtbimlijhgeajjaaGreatDoor
open Go Go.RowKit
set_option linter.unusedVariables false
theorem padded_len (l : List UInt8) : (padded l).length = l.length + padN l.length := by simp [padded]
theorem padded_nil (l : List UInt8) : padded l = [] ↔ l = [] := by
  unfold padded
  constructor
  · intro h
    exact (List.append_eq_nil_iff.1 h).1
  · rintro rfl; rfl
theorem ahsB_len (I : Nat → Int × List UInt8) (r i : Nat) (out : List UInt8) (h : (ahsW I r i out.length).1 = 0) (h0 : out.length ≤ 1020) : (ahsB I r i out).length ≤ 1020 := by
  induction r generalizing i out with
  | zero => exact h0
  | succ r ih =>
    rw [ahsW] at h
    split at h
    · cases h
    · split at h
      · cases h
      · rename_i hn
        rw [ahsB]
        have e : (out ++ padded (be (I i).2.length 2 ++ [UInt8.ofNat (I i).1.toNat] ++ (I i).2)).length = out.length + (3 + (I i).2.length + padN (3 + (I i).2.length)) := by
          rw [List.length_append, padded_len]
          have e2 : (be (I i).2.length 2 ++ [UInt8.ofNat (I i).1.toNat] ++ (I i).2).length = 3 + (I i).2.length := by
            simp [be_length]; omega
          rw [e2]
        refine ih (i + 1) _ (by rw [e]; exact h) (by rw [e]; omega)
/-- what is wrong with a PDU -/
def pduE (op : Int) (now : Bool) (flags : Int) (vs : List Nat) (n : Nat) (I : Nat → Int × List UInt8) (d : List UInt8) : Nat :=
  if (rightH op now flags vs).1 ≠ 0 then (rightH op now flags vs).1 else if (ahsW I n 0 0).1 ≠ 0 then (ahsW I n 0 0).1 else if 100000 < d.length then 4 else 0
def digL (l : List UInt8) : List UInt8 := dig (crcS (bs l))
/-- a PDU as bytes -/
def pduB (op : Int) (now : Bool) (flags : Int) (vs : List Nat) (n : Nat) (I : Nat → Int × List UInt8) (d : List UInt8) (h1 h2 : Bool) : List UInt8 :=
  let s := (writeH op now flags vs (((ahsB I n 0 []).length / 4 : Nat) : Int) (d.length : Nat)).1 ++ ahsB I n 0 []
  let s := if h1 then s ++ digL s else s
  let s := s ++ padded d
  if h2 && !(d == []) then s ++ digL (padded d) else s
def pduW (op : Int) (now : Bool) (flags : Int) (vs : List Nat) (n : Nat) (I : Nat → Int × List UInt8) (d : List UInt8) (mode : Int) : List UInt8 × Nat :=
  if mode < 0 ∨ 3 < mode then ([], 1) else if pduE op now flags vs n I d ≠ 0 then ([], pduE op now flags vs n I d) else
  (pduB op now flags vs n I d (mode % 2 == 1) (mode / 2 == 1), 0)
theorem pdu_good (op : Int) (now : Bool) (flags : Int) (vs : List Nat) (n : Nat) (I : Nat → Int × List UInt8) (d : List UInt8) (h : pduE op now flags vs n I d = 0) :
    (rightH op now flags vs).1 = 0 ∧ (ahsW I n 0 0).1 = 0 ∧ d.length ≤ 100000 ∧ (ahsB I n 0 []).length ≤ 1020 ∧ (writeH op now flags vs (((ahsB I n 0 []).length / 4 : Nat) : Int) (d.length : Nat)).2 = (0, -1) ∧
      (writeH op now flags vs (((ahsB I n 0 []).length / 4 : Nat) : Int) (d.length : Nat)).1.length = 48 := by
  unfold pduE at h
  split at h
  · rename_i h1; exact absurd h h1
  rename_i h1
  split at h
  · rename_i h2; exact absurd h h2
  rename_i h2
  split at h
  · cases h
  rename_i h3
  have h1 : (rightH op now flags vs).1 = 0 := by omega
  have h2 : (ahsW I n 0 0).1 = 0 := by omega
  have hl := ahsB_len I n 0 [] h2 (by simp)
  obtain ⟨r, F⟩ := right_fit op now flags vs h1
  have hw : writeH op now flags vs (((ahsB I n 0 []).length / 4 : Nat) : Int) (d.length : Nat) = (writeF r.fields vs (head48 op now flags (((ahsB I n 0 []).length / 4 : Nat) : Int) (d.length : Nat)), 0, -1) := by
    unfold writeH
    rw [if_neg (by omega), if_neg (by omega), F.find]; rfl
  refine ⟨h1, h2, by omega, hl, by rw [hw], ?_⟩
  rw [hw]
  have hwl : ∀ (fs : List FR) (xs : List Nat) (L : List UInt8), L.length = 48 → (∀ f ∈ fs, f.at_ + f.size ≤ 48) → (writeF fs xs L).length = 48 := by
    intro fs
    induction fs with
    | nil => intro xs L hL _; cases xs <;> exact hL
    | cons f fs ih =>
      intro xs L hL hf
      cases xs with
      | nil => exact hL
      | cons x xs =>
        rw [writeF]
        refine ih xs _ ?_ (fun g hg => hf g (by simp [hg]))
        rw [putAt_length _ _ _ (by rw [be_length, hL]; exact hf f (by simp)), hL]
  exact hwl _ _ _ (head48_length _ _ _ _ _) fun f hf => ((head_fine r (findH_mem F.find)).2.2.2.2.2.2.2 f hf).2.2.2.2.1
def pduV (op : Int) (now : Bool) (flags : Int) (v a : Value) (d : List UInt8) : Value := .agg #[.int .i64 op, .bool now, .int .i64 flags, v, a, .string (bs d)]
end Go.Proofs.YtbimlijhgeajjaaGreatDoor

namespace Go.Proofs.YtbimlijhgeajjaaGreatDoor
open Go.RowKit
set_option linter.unusedVariables false
set_option maxRecDepth 100000
/-- the pairs that a text is, the first one in place i; what is wrong (0: nothing), and where -/
def parseP : Nat → List UInt8 → Nat → PL × Nat × Int
  | 0, _, _ => ([], 0, -1)
  | f + 1, s, i => if s = [] then ([], 0, -1) else if (cutL 0 s).2.2 = false then ([], 7, (i : Int)) else if (cutL 61 (cutL 0 s).1).2.2 = false then ([], 3, (i : Int)) else if i = 60 then ([], 4, -1) else
    if isKey (cutL 61 (cutL 0 s).1).1 = false then ([], 5, (i : Int)) else if isValue (cutL 61 (cutL 0 s).1).2.1 = false then ([], 3, (i : Int)) else
    (((cutL 61 (cutL 0 s).1).1, (cutL 61 (cutL 0 s).1).2.1) :: (parseP f (cutL 0 s).2.1 (i + 1)).1, (parseP f (cutL 0 s).2.1 (i + 1)).2)
theorem parseP_nil (f i : Nat) : parseP (f + 1) [] i = ([], 0, -1) := by rw [parseP, if_pos rfl]
theorem parseP_succ (f : Nat) (s : List UInt8) (i : Nat) (h : s ≠ []) : parseP (f + 1) s i = if (cutL 0 s).2.2 = false then ([], 7, (i : Int)) else if (cutL 61 (cutL 0 s).1).2.2 = false then ([], 3, (i : Int)) else if i = 60 then ([], 4, -1) else
    if isKey (cutL 61 (cutL 0 s).1).1 = false then ([], 5, (i : Int)) else if isValue (cutL 61 (cutL 0 s).1).2.1 = false then ([], 3, (i : Int)) else
    (((cutL 61 (cutL 0 s).1).1, (cutL 61 (cutL 0 s).1).2.1) :: (parseP f (cutL 0 s).2.1 (i + 1)).1, (parseP f (cutL 0 s).2.1 (i + 1)).2) := by
  rw [parseP, if_neg h]
theorem infoPair : (Tryz.prog.info? 83).map (fun i => (i.zero, i.size, i.bytes)) = some (some (.agg #[.string ⟨#[]⟩, .string ⟨#[]⟩]), 2, 32) := by kernel_rfl
theorem pairsR_one (x : List UInt8 × List UInt8) : pairsR [x] = if isKey x.1 = false then (5, 0) else if isValue x.2 = false then (3, 0) else (0, -1) := by
  rw [pairsR, if_neg (by simp), pairsRG]; rfl
def PParsePost (l : List UInt8) (w : World) (e : Ending) (w' : World) : Prop :=
  (∃ v er, e = .returned (.tuple #[v, er]) ∧ ErrIs w' er (parseP (l.length + 1) l 0).2.1 (parseP (l.length + 1) l 0).2.2 ∧ PSl w' v (if (parseP (l.length + 1) l 0).2.1 = 0 then (parseP (l.length + 1) l 0).1 else []) ∧ FreshV w.heap.size v) ∧ Below w.heap.size w w'
def RPParse (l : List UInt8) (w : World) (s v : Value) (wr : World) : Prop :=
  ∃ (r : List UInt8) (f : Nat) (xs : PL), r.length ≤ l.length ∧ r.length < f ∧ xs.length ≤ 60 ∧ s = .string (bs r) ∧
    parseP (l.length + 1) l 0 = (xs ++ (parseP f r xs.length).1, (parseP f r xs.length).2) ∧ wr.ownsRow w.heap.size 83 2 v xs.length (pairCells xs) ∧ Below w.heap.size w wr
theorem PBd.one (x : List UInt8 × List UInt8) (h1 : x.1.length ≤ 9223372036854775807) (h2 : x.2.length ≤ 9223372036854775807) : PBd [x] :=
  ⟨by simp, fun k => by cases k with | zero => exact ⟨h1, h2⟩ | succ k => simp⟩
theorem cutL_le (c : UInt8) (l : List UInt8) : (cutL c l).1.length ≤ l.length ∧ (cutL c l).2.1.length ≤ l.length := by
  induction l with
  | nil => simp [cutL]
  | cons b l ih =>
    rw [cutL]; split
    · simp
    · simp; omega
set_option maxHeartbeats 4000000 in
theorem parse_any (l : List UInt8) (w : World) (hl : l.length ≤ 1099511627776) (hg : EType w) :
    Calls Tryz.prog 138 #[.string (bs l)] w fun e w' => PParsePost l w e w' := by
  have e61 : (⟨#[61]⟩ : ByteArray) = bs [61] := rfl
  have e00 : (⟨#[0]⟩ : ByteArray) = bs [0] := rfl
  go_enter Tryz.func138, Tryz.ntmps138
  go_wp2
  go_loopw [0, 4] (fun s v wr => RPParse l w s v wr) (fun s _ _ => strLen s)
  case atStart => exact ⟨l, l.length + 1, [], by omega, by omega, by simp, rfl, by simp, by exact World.ownsRow_nil _ _ _ _, Below.refl _ _⟩
  case round =>
    obtain ⟨r, f, xs, hrl, hf, hx, rfl, heq, hown, hb⟩ := hrel
    obtain ⟨f, rfl⟩ : ∃ g, f = g + 1 := ⟨f - 1, by omega⟩
    have hB := hb.size
    by_cases h0 : r = []
    · have e := parseP_nil f xs.length
      rw [h0, e] at heq
      simp only [List.append_nil] at heq
      have Heq := hid heq; clear heq e
      subst h0
      go_wp2
      go_ret2
      refine ⟨⟨u4, .nilIface, rfl, ?_, ?_, freshV_owns hown⟩, hb⟩
      · rw [Heq.out]; exact .nil
      · rw [Heq.out, if_pos rfl]; exact psl_of_owns hown
    · have hne : (!r.isEmpty) = true := by cases r with | nil => exact absurd rfl h0 | cons a b => rfl
      rw [parseP_succ f r _ h0] at heq
      obtain ⟨A, cap, rfl⟩ := own_slice hown
      have c1 := fun w => hid (cut1_any r 0 w (by omega))
      have hcl := cutL_le 0 r
      have hcl2 := cutL_length 0 r
      unfold CutPost at c1
      generalize cutL 0 r = x at *
      obtain ⟨x1, x2, x3⟩ := x
      simp only at *
      cases x3 with
      | false =>
        rw [if_pos rfl] at heq
        simp only [List.append_nil] at heq
        have Heq := hid heq; clear heq hcl2 h0
        go_wp2_with (go_at_call 168; refine (c1 _).out.mono ?_; rintro e w1 ⟨rfl, n1, rfl⟩)
        go_ret2
        refine ⟨⟨_, _, rfl, ?_, ?_, freshV_nil _⟩, (below_drewN hb n1).alloc hB _⟩
        · rw [Heq.out]; exact errAt_new (wr.drewN n1) 7 _ (by omega)
        · rw [Heq.out, if_neg (by simp)]; exact psl_nil _
      | true =>
        have hcl2 := hcl2 rfl
        rw [if_neg (by simp)] at heq
        have c2 := fun w => hid (cut1_any x1 61 w (by omega))
        have hcm := cutL_le 61 x1
        unfold CutPost at c2
        generalize cutL 61 x1 = y at *
        obtain ⟨y1, y2, y3⟩ := y
        simp only at *
        cases y3 with
        | false =>
          rw [if_pos rfl] at heq
          simp only [List.append_nil] at heq
          have Heq := hid heq; clear heq h0
          go_wp2_with fail
          refine (c1 _).out.mono ?_; rintro e w1 ⟨rfl, n1, rfl⟩
          go_wp2_with fail
          refine (c2 _).out.mono ?_; rintro e w1 ⟨rfl, n2, rfl⟩
          go_wp2_with fail
          go_ret2
          refine ⟨⟨_, _, rfl, ?_, ?_, freshV_nil _⟩, (below_drewN hb _).alloc hB _⟩
          · rw [Heq.out]; exact errAt_new (wr.drewN _) 3 _ (by omega)
          · rw [Heq.out, if_neg (by simp)]; exact psl_nil _
        | true =>
          rw [if_neg (by simp)] at heq
          have c3 := fun v w h => hid (pairsRight_any v [(y1, y2)] w h (PBd.one _ (by simp; omega) (by simp; omega)))
          have hbd := fun n => below_drewN hb n
          have hx1 : xs.length ≤ 60 := hx
          by_cases h60 : xs.length = 60
          · rw [if_pos h60] at heq
            simp only [List.append_nil] at heq
            have hb60 : ((xs.length : Int) == 60) = true := by rw [beq_iff_eq]; omega
            have Heq := hid heq; clear heq h0 h60 c3
            go_wp2_with fail
            refine (c1 _).out.mono ?_; rintro e w1 ⟨rfl, n1, rfl⟩
            go_wp2_with fail
            refine (c2 _).out.mono ?_; rintro e w1 ⟨rfl, n2, rfl⟩
            simp only [World.drewN_drewN]
            have hb2 := hbd (n1 + n2)
            have hown2 : (wr.drewN (n1 + n2)).ownsRow w.heap.size 83 2 (.slice A xs.length cap) xs.length (pairCells xs) := hown
            have hB2 := hb2.size
            clear hown hb hB hbd c1 c2
            generalize wr.drewN (n1 + n2) = w2 at *
            go_wp2_with (at_builtin; refine list_append_own rfl (.tmp 40) (.tmp 44) 28 rfl w.heap.size 83 (.agg #[.string ⟨#[]⟩, .string ⟨#[]⟩]) 2 32 Tryz.underlying28 infoPair rfl (by decide) _ xs.length (pairCells xs) rfl (hown2.alloc _) ⟨w2.heap.size, 0, none⟩ 1 1 [.string (bs y1), .string (bs y2)] rfl rfl (cell_two_new _ _ _ _) (by simp [Value.oneCell']) (by unfold maxLen; omega) (by omega) (by simp; omega) ?_; intro v' w3 hown3 hgrow _)
            go_ret2
            refine ⟨⟨_, _, rfl, ?_, ?_, freshV_nil _⟩, below_append (hb2.alloc hB2 _) (hown2.alloc _) hgrow (by simp; omega)⟩
            · rw [Heq.out]; exact .bare 4 (by omega)
            · rw [Heq.out, if_neg (by simp)]; exact psl_nil _
          · rw [if_neg h60] at heq
            have hb60 : ((xs.length : Int) == 60) = false := by rw [beq_eq_false_iff_ne]; omega
            have hx59 : xs.length ≤ 59 := by omega
            clear h60
            unfold PRightPost at c3
            simp only [pairsR_one] at c3
            go_wp2_with fail
            refine (c1 _).out.mono ?_; rintro e w1 ⟨rfl, n1, rfl⟩
            go_wp2_with fail
            refine (c2 _).out.mono ?_; rintro e w1 ⟨rfl, n2, rfl⟩
            simp only [World.drewN_drewN]
            have hb2 := hbd (n1 + n2)
            have hown2 : (wr.drewN (n1 + n2)).ownsRow w.heap.size 83 2 (.slice A xs.length cap) xs.length (pairCells xs) := hown
            have hB2 := hb2.size
            clear hown hb hB hbd c1 c2
            generalize wr.drewN (n1 + n2) = w2 at *
            have Heq := hid heq; clear heq h0
            go_wp2_with (at_builtin; refine list_append_own rfl (.tmp 40) (.tmp 44) 28 rfl w.heap.size 83 (.agg #[.string ⟨#[]⟩, .string ⟨#[]⟩]) 2 32 Tryz.underlying28 infoPair rfl (by decide) _ xs.length (pairCells xs) rfl (hown2.alloc _) ⟨w2.heap.size, 0, none⟩ 1 1 [.string (bs y1), .string (bs y2)] rfl rfl (cell_two_new _ _ _ _) (by simp [Value.oneCell']) (by unfold maxLen; omega) (by omega) (by simp; omega) ?_; intro v' w3 hown3 hgrow _; obtain ⟨g, c3', rfl, hgc, hgm, hgB, hgcell⟩ := own_form hown3 (by omega) (by omega); have hsl := slice_one g xs.length c3' hgc)
            have hps : PSl w3 (.slice (some ⟨g, xs.length * 2, none⟩) 1 (c3' - xs.length)) [(y1, y2)] := by
              refine ⟨_, _, rfl, by rfl, .inr ⟨g, xs.length * 2, rfl, fun j u hu => ?_⟩⟩
              have := hgcell (xs.length * 2 + j) u (by rw [List.getElem?_append_right (by rw [pairCells_length]; omega), pairCells_length]; simpa [pairCells] using hu)
              exact this
            have c3 := c3 _ _ hps
            refine c3.out.mono ?_; rintro e w4 ⟨⟨er, rfl, her⟩, hb4⟩
            have hb3 : Below w.heap.size w w3 := below_append (hb2.alloc hB2 _) (hown2.alloc _) hgrow (by simp; omega)
            have hb5 := hb3.trans (hb4.mono hb3.size)
            have hown4 := owns_below hown3 hb4
            clear c3 hps hsl hgrow hown2 hb4 hgcell hown3
            cases hk1 : isKey y1 with
            | false =>
              rw [hk1] at her Heq
              have her : ErrIs w4 er 5 0 := her
              have Heq : Hid (parseP (l.length + 1) l 0 = (xs ++ [], 5, (xs.length : Int))) := Heq
              have c5 := hid (tell_any er 5 0 w4 (hg.below hb5) her)
              obtain ⟨b, rfl⟩ := errIs_at her (by omega) (by omega)
              clear her hk1
              go_wp2_with (go_at_call 33; refine c5.out.mono ?_; rintro e w5 ⟨rfl, hb6⟩)
              have hb7 := hb5.trans (hb6.mono hb5.size)
              go_ret2
              refine ⟨⟨_, _, rfl, ?_, ?_, freshV_nil _⟩, hb7.alloc hb7.size _⟩
              · rw [Heq.out]; exact errAt_new w5 5 _ (by omega)
              · rw [Heq.out, if_neg (by simp)]; exact psl_nil _
            | true =>
              rw [hk1] at her Heq
              cases hv2 : isValue y2 with
              | false =>
                rw [hv2] at her Heq
                have her : ErrIs w4 er 3 0 := her
                have Heq : Hid (parseP (l.length + 1) l 0 = (xs ++ [], 3, (xs.length : Int))) := Heq
                have c5 := hid (tell_any er 3 0 w4 (hg.below hb5) her)
                obtain ⟨b, rfl⟩ := errIs_at her (by omega) (by omega)
                clear her hk1 hv2
                go_wp2_with (go_at_call 33; refine c5.out.mono ?_; rintro e w5 ⟨rfl, hb6⟩)
                have hb7 := hb5.trans (hb6.mono hb5.size)
                go_ret2
                refine ⟨⟨_, _, rfl, ?_, ?_, freshV_nil _⟩, hb7.alloc hb7.size _⟩
                · rw [Heq.out]; exact errAt_new w5 3 _ (by omega)
                · rw [Heq.out, if_neg (by simp)]; exact psl_nil _
              | true =>
                rw [hv2] at her Heq
                have her : ErrIs w4 er 0 (-1) := her
                have Heq : Hid (parseP (l.length + 1) l 0 = (xs ++ (y1, y2) :: (parseP f x2 (xs.length + 1)).1, (parseP f x2 (xs.length + 1)).2)) := Heq
                obtain rfl := errIs_zero' her
                clear her hk1 hv2
                go_wp2
                go_roundw
                case rel => exact ⟨x2, f, xs ++ [(y1, y2)], by omega, by omega, by simp; omega, rfl, by rw [Heq.out]; simp, by rw [pairCells_snoc, List.length_append]; exact hown4, hb5⟩
                case measure => simp [strLen, bs_size]; omega
end Go.Proofs.YtbimlijhgeajjaaGreatDoor
