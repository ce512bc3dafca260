/- Additional headers: what bytes are, by the program and by the document. -/
import Derived.Test.YtejbigoacknfoaaGreatDoorUnpad
import Derived.Test.YtejbigoacknfoaaGreatDoorField
import Derived.Test.YtejbigoacknfoaaGreatDoorTell
import Derived.Maps.AppendAt
import Derived.Test.YtejbigoacknfoaaGreatDoorHeadRdPure
import Derived.Test.YtejbigoacknfoaaGreatDoorPad
set_option linter.unusedSectionVars false
set_option linter.unusedSimpArgs false
set_option linter.unusedVariables false
namespace Go.Proofs.YtejbigoacknfoaaGreatDoor
open Go.RowKit
set_option linter.unusedVariables false
set_option maxRecDepth 100000
/-- the headers that bytes are: what was read, what is wrong (0: nothing), and where -/
def ahsP : Nat → List UInt8 → Nat → List (Nat × List UInt8) × Nat × Int
  | 0, _, _ => ([], 0, -1)
  | f + 1, rest, at_ =>
    if rest.length = 0 then ([], 0, -1) else if rest.length < 3 then ([], 7, at_) else
      if unpadE rest (3 + num (rest.take 2) : Nat) = 0 then
        (((rest.getD 2 0).toNat, (rest.take (3 + num (rest.take 2))).drop 3) :: (ahsP f (rest.drop (3 + num (rest.take 2) + padN (3 + num (rest.take 2)))) (at_ + (3 + num (rest.take 2) + padN (3 + num (rest.take 2))))).1,
          (ahsP f (rest.drop (3 + num (rest.take 2) + padN (3 + num (rest.take 2)))) (at_ + (3 + num (rest.take 2) + padN (3 + num (rest.take 2))))).2)
      else ([], unpadE rest (3 + num (rest.take 2) : Nat), at_)
def ahsCells (xs : List (Nat × List UInt8)) : List Value := xs.flatMap fun x => [.int .i64 (x.1 : Nat), .string (bs x.2)]
theorem infoAhs : (Tryz.prog.info? 166).map (fun i => (i.zero, i.size, i.bytes)) = some (some (.agg #[.int .i64 0, .string ⟨#[]⟩]), 2, 24) := by kernel_rfl
def RAhs (l : List UInt8) (w : World) (v at_ : Value) (wr : World) : Prop :=
  ∃ (k f : Nat) (xs : List (Nat × List UInt8)), k ≤ l.length ∧ l.length - k < f ∧ 4 * xs.length ≤ k ∧ at_ = .int .i64 (k : Nat) ∧
    ahsP (l.length + 1) l 0 = (xs ++ (ahsP f (l.drop k) k).1, (ahsP f (l.drop k) k).2) ∧ wr.ownsRow w.heap.size 166 2 v xs.length (ahsCells xs) ∧ Below w.heap.size w wr
theorem ahsCells_snoc (xs : List (Nat × List UInt8)) (x : Nat × List UInt8) : ahsCells (xs ++ [x]) = ahsCells xs ++ [.int .i64 (x.1 : Nat), .string (bs x.2)] := by
  simp [ahsCells]
theorem num2_lt (l : List UInt8) : num (l.take 2) ≤ 65535 := by
  have h1 := num_lt (l.take 2)
  have h2 : (l.take 2).length ≤ 2 := by simp; omega
  have h3 := Nat.pow_le_pow_right (n := 256) (by omega) h2
  omega
def AhsPost (l : List UInt8) (w : World) (e : Ending) (w' : World) : Prop :=
  (∃ v er, e = .returned (.tuple #[v, er]) ∧ ErrIs w' er (ahsP (l.length + 1) l 0).2.1 (ahsP (l.length + 1) l 0).2.2 ∧
      Sl w' v 2 (if (ahsP (l.length + 1) l 0).2.1 = 0 then (ahsP (l.length + 1) l 0).1.length else 0) (if (ahsP (l.length + 1) l 0).2.1 = 0 then ahsCells (ahsP (l.length + 1) l 0).1 else [])) ∧ Below w.heap.size w w'
theorem ahsRead_any (l : List UInt8) (w : World) (hl : l.length ≤ 1020) (hg : EType w) :
    Calls Tryz.prog 90 #[.string (bs l)] w fun e w' => AhsPost l w e w' := by
  go_enter Tryz.func90, Tryz.ntmps90
  go_wp2
  go_loopw [4, 5] (fun v at_ wr => RAhs l w v at_ wr) (fun _ at_ _ => l.length - (intOf at_).toNat)
  case atStart => exact ⟨0, l.length + 1, [], by omega, by omega, by simp, rfl, by simp, by exact World.ownsRow_nil _ _ _ _, Below.refl _ _⟩
  case round =>
    obtain ⟨k, f, xs, hk, hf, hx, rfl, heq, hown, hb⟩ := hrel
    obtain ⟨f, rfl⟩ : ∃ g, f = g + 1 := ⟨f - 1, by omega⟩
    have hB := hb.size
    have hrl : (l.drop k).length = l.length - k := by simp
    by_cases h0 : l.length - k = 0
    · have e : ahsP (f + 1) (l.drop k) k = ([], 0, -1) := by rw [ahsP, if_pos (by omega)]
      rw [e] at heq
      simp only [List.append_nil] at heq
      have Heq := hid heq; clear heq e
      obtain rfl : k = l.length := by omega
      go_wp2
      go_ret2
      refine ⟨⟨u4, .nilIface, rfl, ?_, ?_⟩, hb⟩
      · rw [Heq.out]; exact .nil
      · rw [Heq.out]; exact sl_of_owns hown
    · by_cases h3 : l.length - k < 3
      · have e : ahsP (f + 1) (l.drop k) k = ([], 7, ((k : Nat) : Int)) := by rw [ahsP, if_neg (by omega), if_pos (by omega)]
        rw [e] at heq
        simp only [List.append_nil] at heq
        have Heq := hid heq; clear heq e
        go_wp2
        go_ret2
        refine ⟨⟨_, _, rfl, ?_, ?_⟩, hb.alloc hB _⟩
        · rw [Heq.out]; exact .at_ 7 (by omega) k wr.heap.size (by simp) (by simp)
        · rw [Heq.out]; exact sl_nil _ _
      · have hn := num2_lt (l.drop k)
        have c1 := fun w => hid (get_any (bs ((l.drop k).take 2)) w (by simp [bs_size]; omega))
        have c2 := fun w => hid (unpad_any (l.drop k) (3 + num ((l.drop k).take 2) : Nat) w (by omega) (by omega) (by omega))
        have hc1 : (bs ((l.drop k).take 2)).size ≤ 8 := by simp [bs_size]; omega
        simp only [if_pos hc1] at c1
        rw [show (bs ((l.drop k).take 2)).data.toList = (l.drop k).take 2 from by simp [bs]] at c1
        clear hc1
        unfold unpadV at c2
        by_cases hu : unpadE (l.drop k) (3 + num ((l.drop k).take 2) : Nat) = 0
        · simp only [if_pos hu, Int.toNat_natCast, padI_nat] at c2
          have hfew : ¬ (l.drop k).length < (3 + num ((l.drop k).take 2)) + padN (3 + num ((l.drop k).take 2)) := fun h => by rw [unpadE_few _ _ h] at hu; omega
          have hp4 := padN_lt (3 + num ((l.drop k).take 2))
          have hp0 : 4 ≤ 3 + num ((l.drop k).take 2) + padN (3 + num ((l.drop k).take 2)) := by unfold padN; omega
          have e : ahsP (f + 1) (l.drop k) k = ((((l.drop k).getD 2 0).toNat, ((l.drop k).take (3 + num ((l.drop k).take 2))).drop 3) :: (ahsP f ((l.drop k).drop (3 + num ((l.drop k).take 2) + padN (3 + num ((l.drop k).take 2)))) (k + (3 + num ((l.drop k).take 2) + padN (3 + num ((l.drop k).take 2))))).1,
              (ahsP f ((l.drop k).drop (3 + num ((l.drop k).take 2) + padN (3 + num ((l.drop k).take 2)))) (k + (3 + num ((l.drop k).take 2) + padN (3 + num ((l.drop k).take 2))))).2) := by rw [ahsP, if_neg (by omega), if_neg (by omega), if_pos hu]
          rw [e, List.drop_drop] at heq
          have hT2 : ∀ (h : 2 < ((l.drop k).take (3 + num ((l.drop k).take 2))).length), ((l.drop k).take (3 + num ((l.drop k).take 2)))[2]'h = (l.drop k).getD 2 0 := by
            intro h; rw [List.getElem_take, List.getD, List.getElem?_eq_getElem (by omega)]; rfl
          have hT3 : 3 ≤ ((l.drop k).take (3 + num ((l.drop k).take 2))).length := by simp; omega
          generalize (l.drop k).getD 2 0 = K at *
          clear hu e
          generalize (l.drop k).take (3 + num ((l.drop k).take 2)) = T at *
          generalize num ((l.drop k).take 2) = n at *
          generalize padN (3 + n) = p at *
          have Heq := hid heq; clear heq
          go_wp2_with first
            | (go_at_call 132; refine (c1 _).out.mono ?_; rintro e w1 ⟨rfl, rfl⟩)
            | (go_at_call 91; refine (c2 _).out.mono ?_; rintro e w2 ⟨rfl, q2, hq2⟩; have hb2 : Below w.heap.size w w2 := (by rw [hq2]; exact below_drewN hb _); have hown2 : w2.ownsRow w.heap.size 166 2 u4 xs.length (ahsCells xs) := (by rw [hq2]; exact hown); clear hq2)
          have hTi : (2 : Int) < (T.length : Int) := by omega
          have hwK : IntKind.i64.wrap (K.toNat : Int) = (K.toNat : Int) := by have := K.toNat_lt; rw [IntKind.wrap_i64]; omega
          have hTj : (3 : Int) ≤ (T.length : Int) := by omega
          go_wp2
          go_region_law (refine step_append_own rfl (.tmp 53) (.tmp 60) 53 rfl w.heap.size 166 (.agg #[.int .i64 0, .string ⟨#[]⟩]) 2 24 Tryz.underlying53 infoAhs rfl (by decide) u4 xs.length (ahsCells xs) (by simp [Act.eval]) (hown2.alloc _) ⟨w2.heap.size, 0, none⟩ 1 1 [.int .i64 (K.toNat : Nat), .string (bs (T.drop 3))] (by simp [Act.eval]) rfl (cell_two_new _ _ _ _) (by simp [Value.oneCell']) (by unfold maxLen; omega) (by omega) (by simp; have := hb2.size; omega) ?_; intro v' w3 hown3 hgrow _)
          simp only [List.getElem_toArray, List.getElem_cons_succ, List.getElem_cons_zero, Act.put, List.setIfInBounds_toArray, List.set_cons_succ, List.set_cons_zero]
          go_wp2
          go_roundw
          case rel =>
            refine ⟨k + (3 + n + p), f, xs ++ [(K.toNat, T.drop 3)], by omega, by omega, by simp; omega, by go_num, ?_, ?_, below_append (hb2.alloc hb2.size _).drew (hown2.alloc _) hgrow (by have := hb2.size; simp; omega)⟩
            · rw [Heq.out]; simp
            · rw [ahsCells_snoc, List.length_append]; exact hown3
          case measure => simp [intOf]; omega
        · simp only [if_neg hu] at c2
          have e : ahsP (f + 1) (l.drop k) k = ([], unpadE (l.drop k) (3 + num ((l.drop k).take 2) : Nat), ((k : Nat) : Int)) := by rw [ahsP, if_neg (by omega), if_neg (by omega), if_neg hu]
          rw [e] at heq
          simp only [List.append_nil] at heq
          have Heq := hid heq; clear heq e
          have hpos : 0 < unpadE (l.drop k) (3 + num ((l.drop k).take 2) : Nat) := by omega
          have c3 := fun w1 (hb : Below w.heap.size w w1) => hid (tell_any (.iface 22 (.int .i64 (unpadE (l.drop k) (3 + num ((l.drop k).take 2) : Nat) : Nat))) _ _ w1 (hg.below hb) (.bare _ hpos))
          clear hu
          generalize unpadE (l.drop k) (3 + num ((l.drop k).take 2) : Nat) = ue at *
          generalize num ((l.drop k).take 2) = n at *
          go_wp2_with first
            | (go_at_call 132; refine (c1 _).out.mono ?_; rintro e w1 ⟨rfl, rfl⟩)
            | (go_at_call 91; refine (c2 _).out.mono ?_; rintro e w2 ⟨rfl, q2, hq2⟩; have hb2 : Below w.heap.size w w2 := (by rw [hq2]; exact below_drewN hb _); clear hq2)
            | (go_at_call 68; refine (c3 _ hb2).out.mono ?_; rintro e w3 ⟨rfl, hb3⟩)
          go_ret2
          refine ⟨⟨_, _, rfl, ?_, ?_⟩, (hb2.trans (hb3.mono hb2.size)).alloc (Nat.le_trans hb2.size hb3.size) _⟩
          · rw [Heq.out]; exact .at_ ue hpos k w3.heap.size (by simp) (by simp)
          · have hne : ¬ ue = 0 := by omega
            rw [Heq.out]; simp only [if_neg hne]; exact sl_nil _ _
end Go.Proofs.YtejbigoacknfoaaGreatDoor

namespace Go.Proofs.YtejbigoacknfoaaGreatDoor
open Go Go.RowKit
set_option linter.unusedVariables false
def dN (s : List UInt8) : Nat := num ((s.drop 5).take 3)
def wN (s : List UInt8) : Nat := (s.getD 4 0).toNat
/-- how many bytes the PDU has -/
def allN (s : List UInt8) (h1 h2 : Bool) : Nat := 48 + 4 * wN s + dN s + padN (dN s) + (if h1 then 4 else 0) + (if h2 && decide (0 < dN s) then 4 else 0)
def sizeP (s : List UInt8) (mode : Int) : Nat × Nat :=
  if mode < 0 ∨ 3 < mode then (0, 1) else if s.length < 48 then (0, 7) else (allN s (mode % 2 == 1) (mode / 2 == 1), 0)
theorem dN_lt (s : List UInt8) : dN s < 16777216 := by
  have h1 := num_lt ((s.drop 5).take 3)
  have h2 : ((s.drop 5).take 3).length ≤ 3 := by simp; omega
  have h3 := Nat.pow_le_pow_right (n := 256) (by omega) h2
  unfold dN; omega
theorem wN_lt (s : List UInt8) : wN s < 256 := (s.getD 4 0).toNat_lt
def endN (s : List UInt8) : Nat := 48 + 4 * wN s
/-- what comes behind the additional headers -/
def restL (s : List UInt8) (h1 h2 : Bool) : List UInt8 := (s.take (allN s h1 h2)).drop (endN s + if h1 then 4 else 0)
structure RdP where
  e : Nat
  op : Int
  now : Bool
  flags : Int
  vals : List Nat
  ahs : List (Nat × List UInt8)
  data : List UInt8
  all : Int
def rdNo (e : Nat) : RdP := ⟨e, 0, false, 0, [], [], [], 0⟩
def ahsOf (s : List UInt8) : List (Nat × List UInt8) × Nat × Int := ahsP (((s.take (endN s)).drop 48).length + 1) ((s.take (endN s)).drop 48) 0
/-- what reading tells, the size being right -/
def readPa (s : List UInt8) (h1 h2 : Bool) : RdP :=
  if h1 && !(digL (s.take (endN s)) == (s.drop (endN s)).take 4) then rdNo 15 else
  if (readH (s.take 48)).e ≠ 0 then rdNo (readH (s.take 48)).e else
  if (ahsOf s).2.1 ≠ 0 then rdNo (ahsOf s).2.1 else
  if unpadE (restL s h1 h2) (dN s : Nat) ≠ 0 then rdNo (unpadE (restL s h1 h2) (dN s : Nat)) else
  if (h2 && decide (0 < dN s)) && !(digL ((restL s h1 h2).take (dN s + padN (dN s))) == (restL s h1 h2).drop (dN s + padN (dN s))) then rdNo 13 else
  if 100000 < dN s then rdNo 4 else
  ⟨0, (readH (s.take 48)).op, (readH (s.take 48)).now, (readH (s.take 48)).flags, (readH (s.take 48)).vals, (ahsOf s).1, (restL s h1 h2).take (dN s), (allN s h1 h2 : Nat)⟩
def readP (s : List UInt8) (mode : Int) : RdP :=
  if (sizeP s mode).2 ≠ 0 then rdNo (sizeP s mode).2 else if s.length < allN s (mode % 2 == 1) (mode / 2 == 1) then rdNo 7 else readPa s (mode % 2 == 1) (mode / 2 == 1)
theorem read_data (s : List UInt8) (hs : 48 ≤ s.length) (h : (readH (s.take 48)).e = 0) : (readH (s.take 48)).data = (dN s : Nat) := by
  have hl : (s.take 48).length = 48 := by simp; omega
  have hd : hData (s.take 48) = (dN s : Nat) := by
    unfold hData dN
    rw [List.drop_take, List.take_take]; rfl
  unfold readH at h ⊢
  split at h
  · cases h
  · rename_i h48
    rw [if_neg h48]
    split at h
    · cases h
    · rename_i h0
      rw [if_neg h0]
      cases hf : findH (hOp (s.take 48)) with
      | none => rw [hf] at h; cases h
      | some r =>
        rw [hf] at h
        simp only [readO] at h ⊢
        split at h
        · cases h
        · rename_i h1
          rw [if_neg h1]
          split at h
          · cases h
          · rename_i h2
            rw [if_neg h2]
            exact hd
end Go.Proofs.YtejbigoacknfoaaGreatDoor
