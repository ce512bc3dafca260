/- The head that 48 bytes are: plain laws. -/
import Derived.Test.YtfeenkofnbefaaaGreatDoorHeadWrPure
set_option linter.unusedSectionVars false
set_option linter.unusedSimpArgs false
set_option linter.unusedVariables false
namespace Go.Proofs.YtfeenkofnbefaaaGreatDoor
open Go Go.RowKit
set_option linter.unusedVariables false
theorem num_from (l : List UInt8) (n : Nat) : l.foldl (fun n c => n * 256 + c.toNat) n = n * 256 ^ l.length + num l := by
  induction l generalizing n with
  | nil => simp [num]
  | cons c l ih =>
    have h2 : num (c :: l) = l.foldl (fun n c => n * 256 + c.toNat) (0 * 256 + c.toNat) := rfl
    rw [List.foldl_cons, ih, h2, ih, List.length_cons, Nat.pow_succ, Nat.add_mul, Nat.zero_mul, Nat.zero_add, Nat.mul_assoc, Nat.mul_comm 256]
    omega
theorem num_cons (c : UInt8) (l : List UInt8) : num (c :: l) = c.toNat * 256 ^ l.length + num l := by
  have := num_from l c.toNat
  have h2 : num (c :: l) = l.foldl (fun n c => n * 256 + c.toNat) (0 * 256 + c.toNat) := rfl
  rw [h2, Nat.zero_mul, Nat.zero_add, this]
theorem be_add (a b k : Nat) : be (a * 256 ^ k + b) k = be b k := by
  induction k generalizing a with
  | zero => rfl
  | succ k ih =>
    have hp : 0 < 256 ^ k := Nat.pow_pos (by omega)
    have e : a * 256 ^ (k + 1) + b = (a * 256) * 256 ^ k + b := by rw [Nat.pow_succ, Nat.mul_assoc, Nat.mul_comm 256]
    rw [be, be, e, ih]
    have : ((a * 256) * 256 ^ k + b) / 256 ^ k = a * 256 + b / 256 ^ k := by
      rw [Nat.add_comm, Nat.add_mul_div_right _ _ hp, Nat.add_comm]
    rw [this, Nat.add_comm, Nat.add_mul_mod_self_right]
theorem be_num (l : List UInt8) : be (num l) l.length = l := by
  induction l with
  | nil => rfl
  | cons c l ih =>
    have hp : 0 < 256 ^ l.length := Nat.pow_pos (by omega)
    have h1 := num_lt l
    rw [List.length_cons, be, num_cons, be_add, ih]
    rw [Nat.add_comm, Nat.add_mul_div_right _ _ hp, Nat.div_eq_of_lt h1, Nat.zero_add, Nat.mod_eq_of_lt c.toNat_lt]
    simp
/-- a field's value in 48 bytes -/
def valOf (s : List UInt8) (f : FR) : Nat := num ((s.drop f.at_).take f.size)
def valsOf (r : HR) (s : List UInt8) : List Nat := r.fields.map (valOf s)
def covers (fs : List FR) (i : Nat) : Bool := fs.any fun f => decide (f.at_ ≤ i) && decide (i < f.at_ + f.size)
theorem putAt_get (l : List UInt8) (k : Nat) (v : List UInt8) (i : Nat) (h : k + v.length ≤ l.length) : (putAt l k v)[i]? = if k ≤ i ∧ i < k + v.length then v[i - k]? else l[i]? := by
  unfold putAt
  have hk : (l.take k).length = k := by simp; omega
  by_cases h1 : i < k
  · rw [if_neg (by omega), List.append_assoc, List.getElem?_append_left (by omega), List.getElem?_take, if_pos h1]
  · rw [List.append_assoc, List.getElem?_append_right (by omega), hk]
    by_cases h2 : i < k + v.length
    · rw [if_pos (by omega), List.getElem?_append_left (by omega)]
    · rw [if_neg (by omega), List.getElem?_append_right (by omega), List.getElem?_drop]
      congr 1; omega
theorem slice_len (s : List UInt8) (f : FR) (h : f.at_ + f.size ≤ s.length) : ((s.drop f.at_).take f.size).length = f.size := by simp; omega
theorem be_val (s : List UInt8) (f : FR) (h : f.at_ + f.size ≤ s.length) : be (valOf s f) f.size = (s.drop f.at_).take f.size := by
  have := be_num ((s.drop f.at_).take f.size)
  rwa [slice_len s f h] at this
theorem writeF_get (s : List UInt8) (hs : s.length = 48) (i : Nat) (fs : List FR) (hf : ∀ f ∈ fs, f.at_ + f.size ≤ 48) (L : List UInt8) (hL : L.length = 48) :
    (writeF fs (fs.map (valOf s)) L)[i]? = (if covers fs i then s[i]? else L[i]?) ∧ (writeF fs (fs.map (valOf s)) L).length = 48 := by
  induction fs generalizing L with
  | nil => exact ⟨rfl, hL⟩
  | cons f fs ih =>
    have h0 := hf f (by simp)
    have hbl := be_length (valOf s f) f.size
    have hl : (putAt L f.at_ (be (valOf s f) f.size)).length = 48 := by rw [putAt_length _ _ _ (by omega), hL]
    rw [List.map_cons, writeF]
    obtain ⟨h1, h2⟩ := ih (fun g hg => hf g (by simp [hg])) _ hl
    refine ⟨?_, h2⟩
    rw [h1]
    have hc : covers (f :: fs) i = ((decide (f.at_ ≤ i) && decide (i < f.at_ + f.size)) || covers fs i) := rfl
    rw [hc]
    by_cases hcf : covers fs i = true
    · rw [if_pos hcf, if_pos (by simp [hcf])]
    · rw [if_neg hcf, putAt_get _ _ _ _ (by omega), hbl]
      by_cases hi : f.at_ ≤ i ∧ i < f.at_ + f.size
      · rw [if_pos hi, if_pos (by simp [hi]), be_val s f (by omega), List.getElem?_take, if_pos (by omega), List.getElem?_drop]
        congr 1; omega
      · rw [if_neg hi, if_neg]
        simp only [Bool.or_eq_true, Bool.and_eq_true, decide_eq_true_eq, not_or]
        exact ⟨hi, hcf⟩
def freeAt (r : HR) (i : Nat) : Bool := decide (i < 2) || (decide (4 ≤ i) && decide (i < 8)) || covers r.fields i
/-- a byte that is no field isn't 0 -/
def spoilt (r : HR) (s : List UInt8) : Bool := (List.range 48).any fun i => !freeAt r i && (s.getD i 0 != 0)
def hOp (s : List UInt8) : Int := ((s.getD 0 0).toNat % 64 : Nat)
def hNow (s : List UInt8) : Bool := decide (64 ≤ (s.getD 0 0).toNat)
def hFl (s : List UInt8) : Int := ((s.getD 1 0).toNat : Nat)
def hWords (s : List UInt8) : Int := ((s.getD 4 0).toNat : Nat)
def hData (s : List UInt8) : Int := (num ((s.drop 5).take 3) : Nat)
theorem list48 (s : List UInt8) (h : s.length = 48) : ∃ a b c d e f g i t, s = a :: b :: c :: d :: e :: f :: g :: i :: t ∧ t.length = 40 := by
  match s, h with
  | a :: b :: c :: d :: e :: f :: g :: i :: t, h => exact ⟨a, b, c, d, e, f, g, i, t, rfl, by simpa using h⟩
theorem head_back (s : List UInt8) (hs : s.length = 48) (h0 : (s.getD 0 0).toNat < 128) (i : Nat) (hi : i < 48) :
    (head48 (hOp s) (hNow s) (hFl s) (hWords s) (hData s))[i]? = some (if i < 2 ∨ (4 ≤ i ∧ i < 8) then s.getD i 0 else 0) := by
  obtain ⟨a, b, c, d, e, f, g, j, t, rfl, ht⟩ := list48 s hs
  have hd : be (hData (a :: b :: c :: d :: e :: f :: g :: j :: t)).toNat 3 = [f, g, j] := be_num [f, g, j]
  have ha : UInt8.ofNat ((hOp (a :: b :: c :: d :: e :: f :: g :: j :: t)).toNat + if hNow (a :: b :: c :: d :: e :: f :: g :: j :: t) = true then 64 else 0) = a := by
    have h0 : a.toNat < 128 := h0
    apply UInt8.toNat_inj.1
    simp only [hOp, hNow, List.getD_cons_zero, Int.toNat_natCast, decide_eq_true_eq, UInt8.toNat_ofNat']
    split <;> omega
  have hb : UInt8.ofNat (hFl (a :: b :: c :: d :: e :: f :: g :: j :: t)).toNat = b := by simp [hFl]
  have he : UInt8.ofNat (hWords (a :: b :: c :: d :: e :: f :: g :: j :: t)).toNat = e := by simp [hWords]
  unfold head48 head8
  rw [ha, hb, he, hd]
  rcases i with _ | _ | _ | _ | _ | _ | _ | _ | i
  all_goals try rfl
  rw [if_neg (by omega)]
  simp only [List.cons_append, List.nil_append, List.getElem?_cons_succ, List.getElem?_replicate]
  rw [if_pos (by omega)]
theorem write_back (r : HR) (hr : r ∈ headRows) (s : List UInt8) (hs : s.length = 48) (h0 : (s.getD 0 0).toNat < 128) :
    writeF r.fields (valsOf r s) (head48 (hOp s) (hNow s) (hFl s) (hWords s) (hData s)) = s ↔ spoilt r s = false := by
  have hf : ∀ f ∈ r.fields, f.at_ + f.size ≤ 48 := fun f hf => ((head_fine r hr).2.2.2.2.2.2.2 f hf).2.2.2.2.1
  have hg := fun i => writeF_get s hs i r.fields hf _ (head48_length (hOp s) (hNow s) (hFl s) (hWords s) (hData s))
  have hsp : spoilt r s = false ↔ ∀ i, i < 48 → freeAt r i = true ∨ s.getD i 0 = 0 := by
    unfold spoilt
    rw [List.any_eq_false]
    constructor
    · intro h i hi
      have := h i (List.mem_range.2 hi)
      cases hfa : freeAt r i <;> simp [hfa] at this ⊢
      exact this
    · intro h i hi
      rcases h i (List.mem_range.1 hi) with h | h
      · simp [h]
      · rw [h]; simp
  rw [hsp]
  constructor
  · intro h i hi
    have h1 := (hg i).1
    unfold valsOf at h
    rw [h] at h1
    by_cases hfa : freeAt r i = true
    · exact .inl hfa
    · right
      have hfa : freeAt r i = false := by simpa using hfa
      simp only [freeAt, Bool.or_eq_false_iff, Bool.and_eq_false_iff, decide_eq_false_iff_not] at hfa
      obtain ⟨⟨f1, f2⟩, f3⟩ := hfa
      rw [f3, if_neg (by simp), head_back s hs h0 i hi, if_neg (by omega)] at h1
      rw [List.getD, h1]; rfl
  · intro h
    refine List.ext_getElem? fun i => ?_
    have h1 := (hg i).1
    unfold valsOf
    rw [h1]
    by_cases hi : i < 48
    · by_cases hc : covers r.fields i = true
      · rw [if_pos hc]
      · rw [if_neg hc, head_back s hs h0 i hi]
        have e : s[i]? = some (s.getD i 0) := by rw [List.getD, List.getElem?_eq_getElem (by omega)]; rfl
        rw [e]
        split
        · rfl
        · rename_i hn
          rcases h i hi with hfa | h0
          · have hc : covers r.fields i = false := by simpa using hc
            simp only [freeAt, hc, Bool.or_false, Bool.or_eq_true, Bool.and_eq_true, decide_eq_true_eq] at hfa
            exact absurd hfa (by omega)
          · rw [h0]
    · rw [List.getElem?_eq_none (by omega)]
      split
      · rfl
      · rw [List.getElem?_eq_none (by rw [head48_length]; omega)]
theorem firstBad_vals (s : List UInt8) (hs : s.length = 48) (fs : List FR) (hf : ∀ f ∈ fs, f.at_ + f.size ≤ 48) (i : Nat) : firstBad fs (fs.map (valOf s)) i = none := by
  induction fs generalizing i with
  | nil => rfl
  | cons f fs ih =>
    rw [List.map_cons, firstBad, if_neg, ih (fun g hg => hf g (by simp [hg]))]
    have h := num_lt ((s.drop f.at_).take f.size)
    rw [slice_len s f (by have := hf f (by simp); omega)] at h
    unfold valOf
    omega
theorem right_read (r : HR) (s : List UInt8) (hs : s.length = 48) (hf : findH (hOp s) = some r) :
    rightH (hOp s) (hNow s) (hFl s) (valsOf r s) = if wrongH (hOp s) (hNow s) (hFl s) r.flags then (3, -1) else (0, -1) := by
  unfold rightH
  rw [hf]
  simp only
  split
  · rfl
  · rw [if_neg (by simp [valsOf])]
    unfold valsOf
    rw [firstBad_vals s hs r.fields (fun f hf' => ((head_fine r (findH_mem hf)).2.2.2.2.2.2.2 f hf').2.2.2.2.1)]
/-- what reading a head tells -/
structure RdH where
  e : Nat
  op : Int
  now : Bool
  flags : Int
  vals : List Nat
  words : Int
  data : Int
def readNo (e : Nat) : RdH := ⟨e, 0, false, 0, [], 0, 0⟩
def readO (s : List UInt8) : Option HR → RdH
  | none => readNo 1
  | some r => if wrongH (hOp s) (hNow s) (hFl s) r.flags then readNo 3 else if spoilt r s then readNo 3 else ⟨0, hOp s, hNow s, hFl s, valsOf r s, hWords s, hData s⟩
def readH (s : List UInt8) : RdH :=
  if s.length ≠ 48 then readNo 7 else if 128 ≤ (s.getD 0 0).toNat then readNo 3 else readO s (findH (hOp s))
end Go.Proofs.YtfeenkofnbefaaaGreatDoor
